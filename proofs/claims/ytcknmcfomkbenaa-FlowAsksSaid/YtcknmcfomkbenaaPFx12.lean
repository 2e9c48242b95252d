-- written by xp.py (ours) over the translation
import Derived.Test.YtcknmcfomkbenaaPFx0
import Derived.Test.YtcknmcfomkbenaaPFx2
import Derived.Test.YtcknmcfomkbenaaPFx3
import Derived.Test.YtcknmcfomkbenaaPFx10
import Derived.Test.YtcknmcfomkbenaaPFx11
namespace Go.Proofs.Ytcknmcfomkbenaa.PF
open Go.RowKit Go.Proofs.YtcknmcfomkbenaaW.PrintWords Go.Proofs.YtcknmcfomkbenaaW.PrintLast Go.Proofs.YtcknmcfomkbenaaW.PrintMore
attribute [local go_sem] max2_int min2_int max_two min_two max_three min_three max_four min_four   -- for this text's walks alone
set_option linter.unusedVariables false
set_option linter.unusedSimpArgs false

/-! ### portolanlaw05_FlowAsks: function 3 -/
def portolanlaw05_FlowAsks.l0 : Nat → Int → Int → List (S30) → Option (Bool)
 | 0, _, _, _ => none
 | k + 1, x1, x5, x309000 => if x5 < (x309000.length : Int) then (if 0 ≤ x5 then ((flow_Next.f k ((rd_T30 x309000 x5).f0) ((rd_T30 x309000 x5).f1) ((rd_T30 x309000 x5).f2) ((rd_T30 x309000 x5).f3) ((rd_T30 x309000 x5).f4) x1).bind fun t313 => ((portolanref05_Next.f ((rd_T30 x309000 x5).f0) ((rd_T30 x309000 x5).f1) ((rd_T30 x309000 x5).f2) ((rd_T30 x309000 x5).f3) ((rd_T30 x309000 x5).f4) x1).bind fun t316 => ((portolanref01_Ints.f k t313 t316).bind fun t319 => (if t319 = true then ((flow_Prev.f k ((rd_T30 x309000 x5).f0) ((rd_T30 x309000 x5).f1) ((rd_T30 x309000 x5).f2) ((rd_T30 x309000 x5).f3) ((rd_T30 x309000 x5).f4) x1).bind fun t320 => ((portolanref05_Prev.f k ((rd_T30 x309000 x5).f0) ((rd_T30 x309000 x5).f1) ((rd_T30 x309000 x5).f2) ((rd_T30 x309000 x5).f3) ((rd_T30 x309000 x5).f4) x1).bind fun t323 => ((portolanref01_Ints.f k t320 t323).bind fun t326 => (if t326 = true then ((flow_Edges.f k ((rd_T30 x309000 x5).f0) ((rd_T30 x309000 x5).f1) ((rd_T30 x309000 x5).f2) ((rd_T30 x309000 x5).f3) ((rd_T30 x309000 x5).f4)).bind fun t327 => ((portolanref05_Edges.f k ((rd_T30 x309000 x5).f0) ((rd_T30 x309000 x5).f1) ((rd_T30 x309000 x5).f2) ((rd_T30 x309000 x5).f3) ((rd_T30 x309000 x5).f4)).bind fun t330 => ((portolanref05_SameEdges.f k t327 t330).bind fun t333 => (if t333 = true then ((flow_Size.f k ((rd_T30 x309000 x5).f0) ((rd_T30 x309000 x5).f1) ((rd_T30 x309000 x5).f2) ((rd_T30 x309000 x5).f3) ((rd_T30 x309000 x5).f4)).bind fun t334 => ((portolanref05_Size.f k ((rd_T30 x309000 x5).f0) ((rd_T30 x309000 x5).f1) ((rd_T30 x309000 x5).f2) ((rd_T30 x309000 x5).f3) ((rd_T30 x309000 x5).f4)).bind fun t335 => (if t334 = t335 then (portolanlaw05_FlowAsks.l0 k x1 (wrap64 (x5 + 1)) x309000) else (some false)))) else (some false))))) else (some false))))) else (some false))))) else (none)) else (some true)
def portolanlaw05_FlowAsks.f (k : Nat) (l0_0 : List (S30)) (a1 : Int) : Option (Bool) := (portolanlaw05_alive.f k).bind fun t309 => (if t309 = true then ((portolanlaw05_out.f k l0_0).bind fun t310 => (if t310 = true then (some true) else (portolanlaw05_FlowAsks.l0 k a1 0 l0_0))) else (some false))
theorem portolanlaw05_FlowAsks.mono_l : ∀ k, (∀ y0 y1 y2, LeO (portolanlaw05_FlowAsks.l0 k y0 y1 y2) (portolanlaw05_FlowAsks.l0 (k + 1) y0 y1 y2))
 | 0 => fun _ _ _ r h => by simp [portolanlaw05_FlowAsks.l0] at h
 | k + 1 => by
  have ih0 := portolanlaw05_FlowAsks.mono_l k
  ·intro y0 y1 y2
   unfold portolanlaw05_FlowAsks.l0
   repeat' first
   | (with_reducible exact ih0 _ _ _)
   | (with_reducible exact flow_Edges.mono _ _ _ _ _ _)
   | (with_reducible exact flow_Next.mono _ _ _ _ _ _ _)
   | (with_reducible exact flow_Prev.mono _ _ _ _ _ _ _)
   | (with_reducible exact flow_Size.mono _ _ _ _ _ _)
   | (with_reducible exact portolanlaw05_alive.mono _)
   | (with_reducible exact portolanlaw05_out.mono _ _)
   | (with_reducible exact portolanref01_Ints.mono _ _ _)
   | (with_reducible exact portolanref05_Edges.mono _ _ _ _ _ _)
   | (with_reducible exact portolanref05_Prev.mono _ _ _ _ _ _ _)
   | (with_reducible exact portolanref05_SameEdges.mono _ _ _)
   | (with_reducible exact portolanref05_Size.mono _ _ _ _ _ _)
   | (with_reducible exact LeO.refl _)
   | (with_reducible exact LeO.none _)
   | (with_reducible refine LeO.ite ?_ ?_)
   | (with_reducible refine LeO.bind ?_ (fun _ => ?_))
   | exact ih0 _ _ _
   | exact flow_Edges.mono _ _ _ _ _ _
   | exact flow_Next.mono _ _ _ _ _ _ _
   | exact flow_Prev.mono _ _ _ _ _ _ _
   | exact flow_Size.mono _ _ _ _ _ _
   | exact portolanlaw05_alive.mono _
   | exact portolanlaw05_out.mono _ _
   | exact portolanref01_Ints.mono _ _ _
   | exact portolanref05_Edges.mono _ _ _ _ _ _
   | exact portolanref05_Prev.mono _ _ _ _ _ _ _
   | exact portolanref05_SameEdges.mono _ _ _
   | exact portolanref05_Size.mono _ _ _ _ _ _
   | exact LeO.none _
   | refine LeO.ite ?_ ?_
   | refine LeO.bind ?_ (fun _ => ?_)
theorem portolanlaw05_FlowAsks.mono : ∀ a0 a1 k, LeO (portolanlaw05_FlowAsks.f k a0 a1) (portolanlaw05_FlowAsks.f (k + 1) a0 a1) := by
 intro a0 a1 k
 have ih0 := portolanlaw05_FlowAsks.mono_l k
 unfold portolanlaw05_FlowAsks.f
 repeat' first
   | (with_reducible exact ih0 _ _ _)
   | (with_reducible exact flow_Edges.mono _ _ _ _ _ _)
   | (with_reducible exact flow_Next.mono _ _ _ _ _ _ _)
   | (with_reducible exact flow_Prev.mono _ _ _ _ _ _ _)
   | (with_reducible exact flow_Size.mono _ _ _ _ _ _)
   | (with_reducible exact portolanlaw05_alive.mono _)
   | (with_reducible exact portolanlaw05_out.mono _ _)
   | (with_reducible exact portolanref01_Ints.mono _ _ _)
   | (with_reducible exact portolanref05_Edges.mono _ _ _ _ _ _)
   | (with_reducible exact portolanref05_Prev.mono _ _ _ _ _ _ _)
   | (with_reducible exact portolanref05_SameEdges.mono _ _ _)
   | (with_reducible exact portolanref05_Size.mono _ _ _ _ _ _)
   | (with_reducible exact LeO.refl _)
   | (with_reducible exact LeO.none _)
   | (with_reducible refine LeO.ite ?_ ?_)
   | (with_reducible refine LeO.bind ?_ (fun _ => ?_))
   | exact ih0 _ _ _
   | exact flow_Edges.mono _ _ _ _ _ _
   | exact flow_Next.mono _ _ _ _ _ _ _
   | exact flow_Prev.mono _ _ _ _ _ _ _
   | exact flow_Size.mono _ _ _ _ _ _
   | exact portolanlaw05_alive.mono _
   | exact portolanlaw05_out.mono _ _
   | exact portolanref01_Ints.mono _ _ _
   | exact portolanref05_Edges.mono _ _ _ _ _ _
   | exact portolanref05_Prev.mono _ _ _ _ _ _ _
   | exact portolanref05_SameEdges.mono _ _ _
   | exact portolanref05_Size.mono _ _ _ _ _ _
   | exact LeO.none _
   | refine LeO.ite ?_ ?_
   | refine LeO.bind ?_ (fun _ => ?_)
def portolanlaw05_FlowAsks.T9 : Bool × List (List Nat × List Nat) := (true, [([], []), ([], []), ([0, 1], [0, 1]), ([], []), ([], []), ([3, 4, 2], [3, 4]), ([2, 5, 5], [2, 5]), ([6], [6]), ([7, 6], [7]), ([8], [8]), ([8], [8]), ([9, 10, 8, 8], [8, 9, 10]), ([8], [8]), ([8], [8]), ([12, 13, 11, 8], [8, 12, 13]), ([11, 14, 14, 8], [8, 11, 14]), ([15, 8], [8, 15]), ([8, 16], [8, 16]), ([17, 15], [17]), ([18], [18]), ([19, 18, 18], [18, 19]), ([18], [18]), ([21, 20, 18], [18, 21]), ([20, 22, 22, 18], [18, 20, 22]), ([23, 18], [18, 23]), ([18, 24], [18, 24]), ([25, 23], [25]), ([26], [26]), ([27, 26, 26], [26, 27]), ([26], [26]), ([29, 28, 26], [26, 29]), ([28, 30, 26], [26, 28, 30]), ([26, 31], [26, 31])])
def portolanlaw05_FlowAsks.B9 : List Nat := [0, 0, 3, 0, 0, 31, 63, 127, 255, 511, 511, 2047, 511, 511, 16383, 32767, 65535, 131071, 262143, 524287, 1048575, 524287, 4194303, 8388607, 16777215, 33554431, 67108863, 134217727, 268435455, 134217727, 1073741823, 2147483647, 4294967295]
theorem portolanlaw05_FlowAsks.tab9 : rtab .any (opsOf Try.f3 9) = portolanlaw05_FlowAsks.T9 := by kernel_rfl
theorem portolanlaw05_FlowAsks.bits9 : waitsOk portolanlaw05_FlowAsks.T9.2 portolanlaw05_FlowAsks.B9 = true := by kernel_rfl
set_option maxHeartbeats 8000000 in
set_option maxRecDepth 100000 in
theorem portolanlaw05_FlowAsks.calls (k : Nat) (A0_0 : Option Addr) (c0_0 : Nat) (l0_0 : List (S30)) (a1 : Int) (w : World) (hr0_0 : Kd.C k30 w A0_0 l0_0.length l0_0) (hc0_0 : l0_0.length ≤ c0_0) (h : portolanlaw05_FlowAsks.f k l0_0 a1 = some true) :
  Calls Try.prog 3 #[.agg #[.slice A0_0 l0_0.length c0_0], .int .i64 a1] w fun e w' => e = .returned (.bool true) ∧ Below w.heap.size w w' := by
 have hu24 := Try.underlying24
 have hu30 := Try.underlying30
 have HR0_0 := Aside0.mk hr0_0
 have HC0_0 := Aside0.mk hc0_0
 clear hr0_0 hc0_0
 have HB := Aside0.mk (Below.refl w.heap.size w)
 have H : ((portolanlaw05_alive.f k).bind fun t309 => (if t309 = true then ((portolanlaw05_out.f k l0_0).bind fun t310 => (if t310 = true then (some true) else (portolanlaw05_FlowAsks.l0 k a1 0 l0_0))) else (some false))) = some true := h
 clear h
 replace H := Option.bind_eq_some_iff.mp H
 obtain ⟨t309, A30, H⟩ := H
 replace H : (if t309 = true then ((portolanlaw05_out.f k l0_0).bind fun t310 => (if t310 = true then (some true) else (portolanlaw05_FlowAsks.l0 k a1 0 l0_0))) else (some false)) = some true := H
 have A3 := Aside0.mk A30
 clear A30
 by_cases c4 : t309 = true
 ·subst c4
  have H1 : ((portolanlaw05_out.f k l0_0).bind fun t310 => (if t310 = true then (some true) else (portolanlaw05_FlowAsks.l0 k a1 0 l0_0))) = some true := by first | (rw [if_pos rfl] at H; exact H) | rfl
  clear H
  have H := H1
  clear H1
  replace H := Option.bind_eq_some_iff.mp H
  obtain ⟨t310, A50, H⟩ := H
  replace H : (if t310 = true then (some true) else (portolanlaw05_FlowAsks.l0 k a1 0 l0_0)) = some true := H
  have A5 := Aside0.mk A50
  clear A50
  by_cases c6 : t310 = true
  ·subst c6
   have H1 : (some true) = some true := by first | (rw [if_pos rfl] at H; exact H) | rfl
   clear H
   have H := H1
   clear H1
   clear H
   go_enter Try.func3, Try.ntmps3
   go_wp2_with (first | ((with_reducible refine gate_dst (N := 2) rfl ?_); refine box_event ?hg (N := 2) ?hd (cs := #[.slice A0_0 l0_0.length c0_0]) (t := 24) ?hr ?_; (case hd => rfl); (case hg => rfl); (case hr => first | (go_simp; done) | (go_simp; rfl)); intro gb308 hg w7 hbox hb; have n0_ := Aside0.mk (below_step (by repeat (first | (with_reducible first | exact HB.out | apply zq5 | apply zq4 | apply zq6) | exact HB.out)) hb); have n1_ := Aside0.mk (hbox); have n2_ := Aside0.mk ((by rw [hg]; exact (below_size (by repeat (first | (with_reducible first | exact HB.out | apply zq5 | apply zq4 | apply zq6) | exact HB.out))) : w.heap.size ≤ gb308)); have n3_ := Aside0.mk ((by rw [hg]; exact (below_size (by repeat (first | (with_reducible first | exact HB.out | apply zq5 | apply zq4 | apply zq6) | exact HB.out))) : w.heap.size ≤ gb308)); clear HB; have HB := n0_; have BK308 := n1_; have GW308 := n2_; have GE308 := n3_; clear n0_ n1_ n2_ n3_; clear hb hbox hg) | ((with_reducible refine gate_callee (f := 16) rfl ?_); refine goesL_ (some 7) rfl rfl Try.func16 (by kernel_rfl) rfl #[] rfl (by (try simp only [List.map_toArray, List.map_cons, List.map_nil]); first | done | rfl | (simp only [List.length_drop, List.length_take]; rfl)) ?_; (with_reducible refine (portolanlaw05_alive.calls k  true _ A3.out).mono ?_); rintro e w8 ⟨rfl, hb⟩; refine ⟨_, rfl, ?_⟩; have n0_ := Aside0.mk (blk_below (g := gb308) (o := .cells #[.slice A0_0 l0_0.length c0_0] 24 (0, 0)) (by (with_reducible repeat (first | refine zq1 ?_ _ | refine zq2 ?_ | refine zq3 ?_ _)); exact BK308.out) hb); have n1_ := Aside0.mk (below_step (by repeat (first | (with_reducible first | exact HB.out | apply zq5 | apply zq4 | apply zq6 | refine below_set ?_ GE308.out) | exact HB.out)) hb); clear BK308; clear HB; have BK308 := n0_; have HB := n1_; clear n0_ n1_; (try clear hb); (try clear hb2); (try clear hk); (try clear hi); have hcz9_0 : w8.cell? ⟨gb308, 0, none⟩ = some (.slice A0_0 l0_0.length c0_0) := (blk_cell BK308.out 0).trans rfl; have hfz9_0 := blk_frozen BK308.out 0) | ((with_reducible refine gate_callee (f := 17) rfl ?_); refine goesL_ (some 10) rfl rfl Try.func17 (by kernel_rfl) rfl #[.agg #[.slice A0_0 l0_0.length c0_0]] rfl (by (try simp only [List.map_toArray, List.map_cons, List.map_nil]); first | done | rfl | (simp only [List.length_drop, List.length_take]; rfl)) ?_; (with_reducible refine (portolanlaw05_out.calls k _ _ l0_0 true _ ?side1 ?side2 A5.out).mono ?_); (case side1 => repeat (first | exact (Kd.C_below HR0_0.out HB.out) | (with_reducible refine Kd.C_alloc ?_ _) | (with_reducible refine Kd.C_drewN ?_ _) | (with_reducible refine Kd.C_drew ?_))); (case side2 => exact HC0_0.out); rintro e w10 ⟨rfl, hb⟩; refine ⟨_, rfl, ?_⟩; have n0_ := Aside0.mk (blk_below (g := gb308) (o := .cells #[.slice A0_0 l0_0.length c0_0] 24 (0, 0)) (by (with_reducible repeat (first | refine zq1 ?_ _ | refine zq2 ?_ | refine zq3 ?_ _)); exact BK308.out) hb); have n1_ := Aside0.mk (below_step (by repeat (first | (with_reducible first | exact HB.out | apply zq5 | apply zq4 | apply zq6 | refine below_set ?_ GE308.out) | exact HB.out)) hb); clear BK308; clear HB; have BK308 := n0_; have HB := n1_; clear n0_ n1_; (try clear hb); (try clear hb2); (try clear hk); (try clear hi)))
   go_ret
   exact ⟨by first | rfl | (simp [errW_none, errW_some] <;> rfl) | (simp [*, errW_none, errW_some] <;> rfl), by repeat (first | (with_reducible first | exact HB.out | apply zq5 | apply zq4 | apply zq6 | refine below_set ?_ GE308.out) | exact HB.out)⟩
  ·replace c6 := Bool.eq_false_iff.mpr c6
   subst c6
   have H1 : (portolanlaw05_FlowAsks.l0 k a1 0 l0_0) = some true := by first | (rw [if_neg (show ¬ (false = true) by decide)] at H; exact H) | rfl
   clear H
   have H := H1
   clear H1
   have H' := Aside0.mk H
   clear H
   go_enter Try.func3, Try.ntmps3
   go_wp2_with (first | ((with_reducible refine gate_dst (N := 2) rfl ?_); refine box_event ?hg (N := 2) ?hd (cs := #[.slice A0_0 l0_0.length c0_0]) (t := 24) ?hr ?_; (case hd => rfl); (case hg => rfl); (case hr => first | (go_simp; done) | (go_simp; rfl)); intro gb308 hg w11 hbox hb; have n0_ := Aside0.mk (below_step (by repeat (first | (with_reducible first | exact HB.out | apply zq5 | apply zq4 | apply zq6) | exact HB.out)) hb); have n1_ := Aside0.mk (hbox); have n2_ := Aside0.mk ((by rw [hg]; exact (below_size (by repeat (first | (with_reducible first | exact HB.out | apply zq5 | apply zq4 | apply zq6) | exact HB.out))) : w.heap.size ≤ gb308)); have n3_ := Aside0.mk ((by rw [hg]; exact (below_size (by repeat (first | (with_reducible first | exact HB.out | apply zq5 | apply zq4 | apply zq6) | exact HB.out))) : w.heap.size ≤ gb308)); clear HB; have HB := n0_; have BK308 := n1_; have GW308 := n2_; have GE308 := n3_; clear n0_ n1_ n2_ n3_; clear hb hbox hg) | ((with_reducible refine gate_callee (f := 16) rfl ?_); refine goesL_ (some 7) rfl rfl Try.func16 (by kernel_rfl) rfl #[] rfl (by (try simp only [List.map_toArray, List.map_cons, List.map_nil]); first | done | rfl | (simp only [List.length_drop, List.length_take]; rfl)) ?_; (with_reducible refine (portolanlaw05_alive.calls k  true _ A3.out).mono ?_); rintro e w12 ⟨rfl, hb⟩; refine ⟨_, rfl, ?_⟩; have n0_ := Aside0.mk (blk_below (g := gb308) (o := .cells #[.slice A0_0 l0_0.length c0_0] 24 (0, 0)) (by (with_reducible repeat (first | refine zq1 ?_ _ | refine zq2 ?_ | refine zq3 ?_ _)); exact BK308.out) hb); have n1_ := Aside0.mk (below_step (by repeat (first | (with_reducible first | exact HB.out | apply zq5 | apply zq4 | apply zq6 | refine below_set ?_ GE308.out) | exact HB.out)) hb); clear BK308; clear HB; have BK308 := n0_; have HB := n1_; clear n0_ n1_; (try clear hb); (try clear hb2); (try clear hk); (try clear hi); have hcz13_0 : w12.cell? ⟨gb308, 0, none⟩ = some (.slice A0_0 l0_0.length c0_0) := (blk_cell BK308.out 0).trans rfl; have hfz13_0 := blk_frozen BK308.out 0) | ((with_reducible refine gate_callee (f := 17) rfl ?_); refine goesL_ (some 10) rfl rfl Try.func17 (by kernel_rfl) rfl #[.agg #[.slice A0_0 l0_0.length c0_0]] rfl (by (try simp only [List.map_toArray, List.map_cons, List.map_nil]); first | done | rfl | (simp only [List.length_drop, List.length_take]; rfl)) ?_; (with_reducible refine (portolanlaw05_out.calls k _ _ l0_0 false _ ?side1 ?side2 A5.out).mono ?_); (case side1 => repeat (first | exact (Kd.C_below HR0_0.out HB.out) | (with_reducible refine Kd.C_alloc ?_ _) | (with_reducible refine Kd.C_drewN ?_ _) | (with_reducible refine Kd.C_drew ?_))); (case side2 => exact HC0_0.out); rintro e w14 ⟨rfl, hb⟩; refine ⟨_, rfl, ?_⟩; have n0_ := Aside0.mk (blk_below (g := gb308) (o := .cells #[.slice A0_0 l0_0.length c0_0] 24 (0, 0)) (by (with_reducible repeat (first | refine zq1 ?_ _ | refine zq2 ?_ | refine zq3 ?_ _)); exact BK308.out) hb); have n1_ := Aside0.mk (below_step (by repeat (first | (with_reducible first | exact HB.out | apply zq5 | apply zq4 | apply zq6 | refine below_set ?_ GE308.out) | exact HB.out)) hb); clear BK308; clear HB; have BK308 := n0_; have HB := n1_; clear n0_ n1_; (try clear hb); (try clear hb2); (try clear hk); (try clear hi)))
   go_loopg [5] k (fun kq v5 w' => ∃ (x5_1 : Int), v5 = .int .i64 x5_1 ∧ Aside0 (portolanlaw05_FlowAsks.l0 kq a1 x5_1 l0_0 = some true) ∧ Aside0 (kq ≤ k) ∧ Aside0 (w'.heap[gb308]? = some (.cells #[(.slice A0_0 l0_0.length c0_0)] 24 (0, 0))) ∧ Aside0 (Below w.heap.size w w'))
   case atStart => exact ⟨(0), (by first | rfl | (simp; done) | (simp [*]; done)), H', ⟨Nat.le_refl _⟩, ⟨by (with_reducible repeat (first | refine zq1 ?_ _ | refine zq2 ?_ | refine zq3 ?_ _)); exact BK308.out⟩, ⟨by repeat (first | (with_reducible first | exact HB.out | apply zq5 | apply zq4 | apply zq6 | refine below_set ?_ GE308.out) | exact HB.out)⟩⟩
   case round =>
    clear H'
    try clear c1
    try clear p2
    try clear c3
    try clear c4
    try clear c6
    try clear hcz13_0
    try clear hcz9_0
    try clear hfz13_0
    try clear hfz9_0
    obtain ⟨x5_1, rfl, HA, HK1, BK308, HB⟩ := hrel
    cases gk with
    | zero => exact absurd HA.out (by simp [portolanlaw05_FlowAsks.l0])
    | succ k1 =>
     have H := HA.out
     clear HA
     simp only [portolanlaw05_FlowAsks.l0] at H
     by_cases c15 : x5_1 < (l0_0.length : Int)
     ·rw [if_pos c15] at H
      have c15b0 : decide (x5_1 < (l0_0.length : Int)) = true := decide_eq_true c15
      clear c15
      by_cases c16 : 0 ≤ x5_1
      ·rw [if_pos c16] at H
       have c16b0 : decide (0 ≤ x5_1) = true := decide_eq_true c16
       clear c16
       replace H := Option.bind_eq_some_iff.mp H
       obtain ⟨t313, A170, H⟩ := H
       replace H : ((portolanref05_Next.f ((rd_T30 l0_0 x5_1).f0) ((rd_T30 l0_0 x5_1).f1) ((rd_T30 l0_0 x5_1).f2) ((rd_T30 l0_0 x5_1).f3) ((rd_T30 l0_0 x5_1).f4) a1).bind fun t316 => ((portolanref01_Ints.f k1 t313 t316).bind fun t319 => (if t319 = true then ((flow_Prev.f k1 ((rd_T30 l0_0 x5_1).f0) ((rd_T30 l0_0 x5_1).f1) ((rd_T30 l0_0 x5_1).f2) ((rd_T30 l0_0 x5_1).f3) ((rd_T30 l0_0 x5_1).f4) a1).bind fun t320 => ((portolanref05_Prev.f k1 ((rd_T30 l0_0 x5_1).f0) ((rd_T30 l0_0 x5_1).f1) ((rd_T30 l0_0 x5_1).f2) ((rd_T30 l0_0 x5_1).f3) ((rd_T30 l0_0 x5_1).f4) a1).bind fun t323 => ((portolanref01_Ints.f k1 t320 t323).bind fun t326 => (if t326 = true then ((flow_Edges.f k1 ((rd_T30 l0_0 x5_1).f0) ((rd_T30 l0_0 x5_1).f1) ((rd_T30 l0_0 x5_1).f2) ((rd_T30 l0_0 x5_1).f3) ((rd_T30 l0_0 x5_1).f4)).bind fun t327 => ((portolanref05_Edges.f k1 ((rd_T30 l0_0 x5_1).f0) ((rd_T30 l0_0 x5_1).f1) ((rd_T30 l0_0 x5_1).f2) ((rd_T30 l0_0 x5_1).f3) ((rd_T30 l0_0 x5_1).f4)).bind fun t330 => ((portolanref05_SameEdges.f k1 t327 t330).bind fun t333 => (if t333 = true then ((flow_Size.f k1 ((rd_T30 l0_0 x5_1).f0) ((rd_T30 l0_0 x5_1).f1) ((rd_T30 l0_0 x5_1).f2) ((rd_T30 l0_0 x5_1).f3) ((rd_T30 l0_0 x5_1).f4)).bind fun t334 => ((portolanref05_Size.f k1 ((rd_T30 l0_0 x5_1).f0) ((rd_T30 l0_0 x5_1).f1) ((rd_T30 l0_0 x5_1).f2) ((rd_T30 l0_0 x5_1).f3) ((rd_T30 l0_0 x5_1).f4)).bind fun t335 => (if t334 = t335 then (portolanlaw05_FlowAsks.l0 k1 a1 (wrap64 (x5_1 + 1)) l0_0) else (some false)))) else (some false))))) else (some false))))) else (some false)))) = some true := H
       have A17 := Aside0.mk A170
       clear A170
       replace H := Option.bind_eq_some_iff.mp H
       obtain ⟨t316, A180, H⟩ := H
       replace H : ((portolanref01_Ints.f k1 t313 t316).bind fun t319 => (if t319 = true then ((flow_Prev.f k1 ((rd_T30 l0_0 x5_1).f0) ((rd_T30 l0_0 x5_1).f1) ((rd_T30 l0_0 x5_1).f2) ((rd_T30 l0_0 x5_1).f3) ((rd_T30 l0_0 x5_1).f4) a1).bind fun t320 => ((portolanref05_Prev.f k1 ((rd_T30 l0_0 x5_1).f0) ((rd_T30 l0_0 x5_1).f1) ((rd_T30 l0_0 x5_1).f2) ((rd_T30 l0_0 x5_1).f3) ((rd_T30 l0_0 x5_1).f4) a1).bind fun t323 => ((portolanref01_Ints.f k1 t320 t323).bind fun t326 => (if t326 = true then ((flow_Edges.f k1 ((rd_T30 l0_0 x5_1).f0) ((rd_T30 l0_0 x5_1).f1) ((rd_T30 l0_0 x5_1).f2) ((rd_T30 l0_0 x5_1).f3) ((rd_T30 l0_0 x5_1).f4)).bind fun t327 => ((portolanref05_Edges.f k1 ((rd_T30 l0_0 x5_1).f0) ((rd_T30 l0_0 x5_1).f1) ((rd_T30 l0_0 x5_1).f2) ((rd_T30 l0_0 x5_1).f3) ((rd_T30 l0_0 x5_1).f4)).bind fun t330 => ((portolanref05_SameEdges.f k1 t327 t330).bind fun t333 => (if t333 = true then ((flow_Size.f k1 ((rd_T30 l0_0 x5_1).f0) ((rd_T30 l0_0 x5_1).f1) ((rd_T30 l0_0 x5_1).f2) ((rd_T30 l0_0 x5_1).f3) ((rd_T30 l0_0 x5_1).f4)).bind fun t334 => ((portolanref05_Size.f k1 ((rd_T30 l0_0 x5_1).f0) ((rd_T30 l0_0 x5_1).f1) ((rd_T30 l0_0 x5_1).f2) ((rd_T30 l0_0 x5_1).f3) ((rd_T30 l0_0 x5_1).f4)).bind fun t335 => (if t334 = t335 then (portolanlaw05_FlowAsks.l0 k1 a1 (wrap64 (x5_1 + 1)) l0_0) else (some false)))) else (some false))))) else (some false))))) else (some false))) = some true := H
       have A18 := Aside0.mk A180
       clear A180
       replace H := Option.bind_eq_some_iff.mp H
       obtain ⟨t319, A190, H⟩ := H
       replace H : (if t319 = true then ((flow_Prev.f k1 ((rd_T30 l0_0 x5_1).f0) ((rd_T30 l0_0 x5_1).f1) ((rd_T30 l0_0 x5_1).f2) ((rd_T30 l0_0 x5_1).f3) ((rd_T30 l0_0 x5_1).f4) a1).bind fun t320 => ((portolanref05_Prev.f k1 ((rd_T30 l0_0 x5_1).f0) ((rd_T30 l0_0 x5_1).f1) ((rd_T30 l0_0 x5_1).f2) ((rd_T30 l0_0 x5_1).f3) ((rd_T30 l0_0 x5_1).f4) a1).bind fun t323 => ((portolanref01_Ints.f k1 t320 t323).bind fun t326 => (if t326 = true then ((flow_Edges.f k1 ((rd_T30 l0_0 x5_1).f0) ((rd_T30 l0_0 x5_1).f1) ((rd_T30 l0_0 x5_1).f2) ((rd_T30 l0_0 x5_1).f3) ((rd_T30 l0_0 x5_1).f4)).bind fun t327 => ((portolanref05_Edges.f k1 ((rd_T30 l0_0 x5_1).f0) ((rd_T30 l0_0 x5_1).f1) ((rd_T30 l0_0 x5_1).f2) ((rd_T30 l0_0 x5_1).f3) ((rd_T30 l0_0 x5_1).f4)).bind fun t330 => ((portolanref05_SameEdges.f k1 t327 t330).bind fun t333 => (if t333 = true then ((flow_Size.f k1 ((rd_T30 l0_0 x5_1).f0) ((rd_T30 l0_0 x5_1).f1) ((rd_T30 l0_0 x5_1).f2) ((rd_T30 l0_0 x5_1).f3) ((rd_T30 l0_0 x5_1).f4)).bind fun t334 => ((portolanref05_Size.f k1 ((rd_T30 l0_0 x5_1).f0) ((rd_T30 l0_0 x5_1).f1) ((rd_T30 l0_0 x5_1).f2) ((rd_T30 l0_0 x5_1).f3) ((rd_T30 l0_0 x5_1).f4)).bind fun t335 => (if t334 = t335 then (portolanlaw05_FlowAsks.l0 k1 a1 (wrap64 (x5_1 + 1)) l0_0) else (some false)))) else (some false))))) else (some false))))) else (some false)) = some true := H
       have A19 := Aside0.mk A190
       clear A190
       by_cases c20 : t319 = true
       ·subst c20
        have H1 : ((flow_Prev.f k1 ((rd_T30 l0_0 x5_1).f0) ((rd_T30 l0_0 x5_1).f1) ((rd_T30 l0_0 x5_1).f2) ((rd_T30 l0_0 x5_1).f3) ((rd_T30 l0_0 x5_1).f4) a1).bind fun t320 => ((portolanref05_Prev.f k1 ((rd_T30 l0_0 x5_1).f0) ((rd_T30 l0_0 x5_1).f1) ((rd_T30 l0_0 x5_1).f2) ((rd_T30 l0_0 x5_1).f3) ((rd_T30 l0_0 x5_1).f4) a1).bind fun t323 => ((portolanref01_Ints.f k1 t320 t323).bind fun t326 => (if t326 = true then ((flow_Edges.f k1 ((rd_T30 l0_0 x5_1).f0) ((rd_T30 l0_0 x5_1).f1) ((rd_T30 l0_0 x5_1).f2) ((rd_T30 l0_0 x5_1).f3) ((rd_T30 l0_0 x5_1).f4)).bind fun t327 => ((portolanref05_Edges.f k1 ((rd_T30 l0_0 x5_1).f0) ((rd_T30 l0_0 x5_1).f1) ((rd_T30 l0_0 x5_1).f2) ((rd_T30 l0_0 x5_1).f3) ((rd_T30 l0_0 x5_1).f4)).bind fun t330 => ((portolanref05_SameEdges.f k1 t327 t330).bind fun t333 => (if t333 = true then ((flow_Size.f k1 ((rd_T30 l0_0 x5_1).f0) ((rd_T30 l0_0 x5_1).f1) ((rd_T30 l0_0 x5_1).f2) ((rd_T30 l0_0 x5_1).f3) ((rd_T30 l0_0 x5_1).f4)).bind fun t334 => ((portolanref05_Size.f k1 ((rd_T30 l0_0 x5_1).f0) ((rd_T30 l0_0 x5_1).f1) ((rd_T30 l0_0 x5_1).f2) ((rd_T30 l0_0 x5_1).f3) ((rd_T30 l0_0 x5_1).f4)).bind fun t335 => (if t334 = t335 then (portolanlaw05_FlowAsks.l0 k1 a1 (wrap64 (x5_1 + 1)) l0_0) else (some false)))) else (some false))))) else (some false))))) = some true := by first | (rw [if_pos rfl] at H; exact H) | rfl
        clear H
        have H := H1
        clear H1
        replace H := Option.bind_eq_some_iff.mp H
        obtain ⟨t320, A210, H⟩ := H
        replace H : ((portolanref05_Prev.f k1 ((rd_T30 l0_0 x5_1).f0) ((rd_T30 l0_0 x5_1).f1) ((rd_T30 l0_0 x5_1).f2) ((rd_T30 l0_0 x5_1).f3) ((rd_T30 l0_0 x5_1).f4) a1).bind fun t323 => ((portolanref01_Ints.f k1 t320 t323).bind fun t326 => (if t326 = true then ((flow_Edges.f k1 ((rd_T30 l0_0 x5_1).f0) ((rd_T30 l0_0 x5_1).f1) ((rd_T30 l0_0 x5_1).f2) ((rd_T30 l0_0 x5_1).f3) ((rd_T30 l0_0 x5_1).f4)).bind fun t327 => ((portolanref05_Edges.f k1 ((rd_T30 l0_0 x5_1).f0) ((rd_T30 l0_0 x5_1).f1) ((rd_T30 l0_0 x5_1).f2) ((rd_T30 l0_0 x5_1).f3) ((rd_T30 l0_0 x5_1).f4)).bind fun t330 => ((portolanref05_SameEdges.f k1 t327 t330).bind fun t333 => (if t333 = true then ((flow_Size.f k1 ((rd_T30 l0_0 x5_1).f0) ((rd_T30 l0_0 x5_1).f1) ((rd_T30 l0_0 x5_1).f2) ((rd_T30 l0_0 x5_1).f3) ((rd_T30 l0_0 x5_1).f4)).bind fun t334 => ((portolanref05_Size.f k1 ((rd_T30 l0_0 x5_1).f0) ((rd_T30 l0_0 x5_1).f1) ((rd_T30 l0_0 x5_1).f2) ((rd_T30 l0_0 x5_1).f3) ((rd_T30 l0_0 x5_1).f4)).bind fun t335 => (if t334 = t335 then (portolanlaw05_FlowAsks.l0 k1 a1 (wrap64 (x5_1 + 1)) l0_0) else (some false)))) else (some false))))) else (some false)))) = some true := H
        have A21 := Aside0.mk A210
        clear A210
        replace H := Option.bind_eq_some_iff.mp H
        obtain ⟨t323, A220, H⟩ := H
        replace H : ((portolanref01_Ints.f k1 t320 t323).bind fun t326 => (if t326 = true then ((flow_Edges.f k1 ((rd_T30 l0_0 x5_1).f0) ((rd_T30 l0_0 x5_1).f1) ((rd_T30 l0_0 x5_1).f2) ((rd_T30 l0_0 x5_1).f3) ((rd_T30 l0_0 x5_1).f4)).bind fun t327 => ((portolanref05_Edges.f k1 ((rd_T30 l0_0 x5_1).f0) ((rd_T30 l0_0 x5_1).f1) ((rd_T30 l0_0 x5_1).f2) ((rd_T30 l0_0 x5_1).f3) ((rd_T30 l0_0 x5_1).f4)).bind fun t330 => ((portolanref05_SameEdges.f k1 t327 t330).bind fun t333 => (if t333 = true then ((flow_Size.f k1 ((rd_T30 l0_0 x5_1).f0) ((rd_T30 l0_0 x5_1).f1) ((rd_T30 l0_0 x5_1).f2) ((rd_T30 l0_0 x5_1).f3) ((rd_T30 l0_0 x5_1).f4)).bind fun t334 => ((portolanref05_Size.f k1 ((rd_T30 l0_0 x5_1).f0) ((rd_T30 l0_0 x5_1).f1) ((rd_T30 l0_0 x5_1).f2) ((rd_T30 l0_0 x5_1).f3) ((rd_T30 l0_0 x5_1).f4)).bind fun t335 => (if t334 = t335 then (portolanlaw05_FlowAsks.l0 k1 a1 (wrap64 (x5_1 + 1)) l0_0) else (some false)))) else (some false))))) else (some false))) = some true := H
        have A22 := Aside0.mk A220
        clear A220
        replace H := Option.bind_eq_some_iff.mp H
        obtain ⟨t326, A230, H⟩ := H
        replace H : (if t326 = true then ((flow_Edges.f k1 ((rd_T30 l0_0 x5_1).f0) ((rd_T30 l0_0 x5_1).f1) ((rd_T30 l0_0 x5_1).f2) ((rd_T30 l0_0 x5_1).f3) ((rd_T30 l0_0 x5_1).f4)).bind fun t327 => ((portolanref05_Edges.f k1 ((rd_T30 l0_0 x5_1).f0) ((rd_T30 l0_0 x5_1).f1) ((rd_T30 l0_0 x5_1).f2) ((rd_T30 l0_0 x5_1).f3) ((rd_T30 l0_0 x5_1).f4)).bind fun t330 => ((portolanref05_SameEdges.f k1 t327 t330).bind fun t333 => (if t333 = true then ((flow_Size.f k1 ((rd_T30 l0_0 x5_1).f0) ((rd_T30 l0_0 x5_1).f1) ((rd_T30 l0_0 x5_1).f2) ((rd_T30 l0_0 x5_1).f3) ((rd_T30 l0_0 x5_1).f4)).bind fun t334 => ((portolanref05_Size.f k1 ((rd_T30 l0_0 x5_1).f0) ((rd_T30 l0_0 x5_1).f1) ((rd_T30 l0_0 x5_1).f2) ((rd_T30 l0_0 x5_1).f3) ((rd_T30 l0_0 x5_1).f4)).bind fun t335 => (if t334 = t335 then (portolanlaw05_FlowAsks.l0 k1 a1 (wrap64 (x5_1 + 1)) l0_0) else (some false)))) else (some false))))) else (some false)) = some true := H
        have A23 := Aside0.mk A230
        clear A230
        by_cases c24 : t326 = true
        ·subst c24
         have H1 : ((flow_Edges.f k1 ((rd_T30 l0_0 x5_1).f0) ((rd_T30 l0_0 x5_1).f1) ((rd_T30 l0_0 x5_1).f2) ((rd_T30 l0_0 x5_1).f3) ((rd_T30 l0_0 x5_1).f4)).bind fun t327 => ((portolanref05_Edges.f k1 ((rd_T30 l0_0 x5_1).f0) ((rd_T30 l0_0 x5_1).f1) ((rd_T30 l0_0 x5_1).f2) ((rd_T30 l0_0 x5_1).f3) ((rd_T30 l0_0 x5_1).f4)).bind fun t330 => ((portolanref05_SameEdges.f k1 t327 t330).bind fun t333 => (if t333 = true then ((flow_Size.f k1 ((rd_T30 l0_0 x5_1).f0) ((rd_T30 l0_0 x5_1).f1) ((rd_T30 l0_0 x5_1).f2) ((rd_T30 l0_0 x5_1).f3) ((rd_T30 l0_0 x5_1).f4)).bind fun t334 => ((portolanref05_Size.f k1 ((rd_T30 l0_0 x5_1).f0) ((rd_T30 l0_0 x5_1).f1) ((rd_T30 l0_0 x5_1).f2) ((rd_T30 l0_0 x5_1).f3) ((rd_T30 l0_0 x5_1).f4)).bind fun t335 => (if t334 = t335 then (portolanlaw05_FlowAsks.l0 k1 a1 (wrap64 (x5_1 + 1)) l0_0) else (some false)))) else (some false))))) = some true := by first | (rw [if_pos rfl] at H; exact H) | rfl
         clear H
         have H := H1
         clear H1
         replace H := Option.bind_eq_some_iff.mp H
         obtain ⟨t327, A250, H⟩ := H
         replace H : ((portolanref05_Edges.f k1 ((rd_T30 l0_0 x5_1).f0) ((rd_T30 l0_0 x5_1).f1) ((rd_T30 l0_0 x5_1).f2) ((rd_T30 l0_0 x5_1).f3) ((rd_T30 l0_0 x5_1).f4)).bind fun t330 => ((portolanref05_SameEdges.f k1 t327 t330).bind fun t333 => (if t333 = true then ((flow_Size.f k1 ((rd_T30 l0_0 x5_1).f0) ((rd_T30 l0_0 x5_1).f1) ((rd_T30 l0_0 x5_1).f2) ((rd_T30 l0_0 x5_1).f3) ((rd_T30 l0_0 x5_1).f4)).bind fun t334 => ((portolanref05_Size.f k1 ((rd_T30 l0_0 x5_1).f0) ((rd_T30 l0_0 x5_1).f1) ((rd_T30 l0_0 x5_1).f2) ((rd_T30 l0_0 x5_1).f3) ((rd_T30 l0_0 x5_1).f4)).bind fun t335 => (if t334 = t335 then (portolanlaw05_FlowAsks.l0 k1 a1 (wrap64 (x5_1 + 1)) l0_0) else (some false)))) else (some false)))) = some true := H
         have A25 := Aside0.mk A250
         clear A250
         replace H := Option.bind_eq_some_iff.mp H
         obtain ⟨t330, A260, H⟩ := H
         replace H : ((portolanref05_SameEdges.f k1 t327 t330).bind fun t333 => (if t333 = true then ((flow_Size.f k1 ((rd_T30 l0_0 x5_1).f0) ((rd_T30 l0_0 x5_1).f1) ((rd_T30 l0_0 x5_1).f2) ((rd_T30 l0_0 x5_1).f3) ((rd_T30 l0_0 x5_1).f4)).bind fun t334 => ((portolanref05_Size.f k1 ((rd_T30 l0_0 x5_1).f0) ((rd_T30 l0_0 x5_1).f1) ((rd_T30 l0_0 x5_1).f2) ((rd_T30 l0_0 x5_1).f3) ((rd_T30 l0_0 x5_1).f4)).bind fun t335 => (if t334 = t335 then (portolanlaw05_FlowAsks.l0 k1 a1 (wrap64 (x5_1 + 1)) l0_0) else (some false)))) else (some false))) = some true := H
         have A26 := Aside0.mk A260
         clear A260
         replace H := Option.bind_eq_some_iff.mp H
         obtain ⟨t333, A270, H⟩ := H
         replace H : (if t333 = true then ((flow_Size.f k1 ((rd_T30 l0_0 x5_1).f0) ((rd_T30 l0_0 x5_1).f1) ((rd_T30 l0_0 x5_1).f2) ((rd_T30 l0_0 x5_1).f3) ((rd_T30 l0_0 x5_1).f4)).bind fun t334 => ((portolanref05_Size.f k1 ((rd_T30 l0_0 x5_1).f0) ((rd_T30 l0_0 x5_1).f1) ((rd_T30 l0_0 x5_1).f2) ((rd_T30 l0_0 x5_1).f3) ((rd_T30 l0_0 x5_1).f4)).bind fun t335 => (if t334 = t335 then (portolanlaw05_FlowAsks.l0 k1 a1 (wrap64 (x5_1 + 1)) l0_0) else (some false)))) else (some false)) = some true := H
         have A27 := Aside0.mk A270
         clear A270
         by_cases c28 : t333 = true
         ·subst c28
          have H1 : ((flow_Size.f k1 ((rd_T30 l0_0 x5_1).f0) ((rd_T30 l0_0 x5_1).f1) ((rd_T30 l0_0 x5_1).f2) ((rd_T30 l0_0 x5_1).f3) ((rd_T30 l0_0 x5_1).f4)).bind fun t334 => ((portolanref05_Size.f k1 ((rd_T30 l0_0 x5_1).f0) ((rd_T30 l0_0 x5_1).f1) ((rd_T30 l0_0 x5_1).f2) ((rd_T30 l0_0 x5_1).f3) ((rd_T30 l0_0 x5_1).f4)).bind fun t335 => (if t334 = t335 then (portolanlaw05_FlowAsks.l0 k1 a1 (wrap64 (x5_1 + 1)) l0_0) else (some false)))) = some true := by first | (rw [if_pos rfl] at H; exact H) | rfl
          clear H
          have H := H1
          clear H1
          replace H := Option.bind_eq_some_iff.mp H
          obtain ⟨t334, A290, H⟩ := H
          replace H : ((portolanref05_Size.f k1 ((rd_T30 l0_0 x5_1).f0) ((rd_T30 l0_0 x5_1).f1) ((rd_T30 l0_0 x5_1).f2) ((rd_T30 l0_0 x5_1).f3) ((rd_T30 l0_0 x5_1).f4)).bind fun t335 => (if t334 = t335 then (portolanlaw05_FlowAsks.l0 k1 a1 (wrap64 (x5_1 + 1)) l0_0) else (some false))) = some true := H
          have A29 := Aside0.mk A290
          clear A290
          replace H := Option.bind_eq_some_iff.mp H
          obtain ⟨t335, A300, H⟩ := H
          replace H : (if t334 = t335 then (portolanlaw05_FlowAsks.l0 k1 a1 (wrap64 (x5_1 + 1)) l0_0) else (some false)) = some true := H
          have A30 := Aside0.mk A300
          clear A300
          by_cases c31 : t334 = t335
          ·rw [if_pos c31] at H
           have c31b0 : (t334 == t335) = true := beq_iff_eq.mpr c31
           have c31b1 : (t334 != t335) = false := bne_eq_false_iff_eq.mpr c31
           clear c31
           have H' := Aside0.mk H
           clear H
           have hcz32_0 : wr.cell? ⟨gb308, 0, none⟩ = some (.slice A0_0 l0_0.length c0_0) := (blk_cell BK308.out 0).trans rfl
           have hfz32_0 := blk_frozen BK308.out 0
           have p311 : 0 ≤ (x5_1 : Int) := of_decide_eq_true (by first | (with_reducible assumption) | assumption)
           have q311 : x5_1 < (l0_0.length : Int) := of_decide_eq_true (by first | (with_reducible assumption) | assumption)
           obtain ⟨ad311, A311_0, c311_0, A311_1, c311_1, A311_4, c311_4, e311, hx311_0, hx311_1, hx311_2, hx311_3, hx311_4, hl311_0, hi311_0, hl311_1, hi311_1, hl311_4, hi311_4⟩ := at_T30 HR0_0.out x5_1 p311 q311
           cases e311
           replace hx311_0 := (HB.out.cell (World.block_lt_of_cell? w _ hx311_0)).trans hx311_0
           replace hx311_1 := (HB.out.cell (World.block_lt_of_cell? w _ hx311_1)).trans hx311_1
           replace hx311_2 := (HB.out.cell (World.block_lt_of_cell? w _ hx311_2)).trans hx311_2
           replace hx311_3 := (HB.out.cell (World.block_lt_of_cell? w _ hx311_3)).trans hx311_3
           replace hx311_4 := (HB.out.cell (World.block_lt_of_cell? w _ hx311_4)).trans hx311_4
           have HR311_0 := Aside0.mk hi311_0
           have HC311_0 := Aside0.mk hl311_0
           clear hi311_0 hl311_0
           have HR311_1 := Aside0.mk hi311_1
           have HC311_1 := Aside0.mk hl311_1
           clear hi311_1 hl311_1
           have HR311_4 := Aside0.mk hi311_4
           have HC311_4 := Aside0.mk hl311_4
           clear hi311_4 hl311_4
           replace p311 := eq_true p311
           replace q311 := eq_true q311
           try go_wp2_with (first | ((with_reducible refine gate_dst (N := 6) rfl ?_); refine box_event ?hg (N := 6) ?hd (cs := #[.slice none 0 0, .slice none 0 0, .int .i64 0, .int .i64 0, .slice none 0 0]) (t := 30) ?hr ?_; (case hd => rfl); (case hg => rfl); (case hr => first | (go_simp; done) | (go_simp; rfl)); intro gb312 hg w33 hbox hb; have n0_ := Aside0.mk (blk_below (g := gb308) (o := .cells #[.slice (some ad311) l0_0.length c0_0] 24 (0, 0)) (by (with_reducible repeat (first | refine zq1 ?_ _ | refine zq2 ?_ | refine zq3 ?_ _)); exact BK308.out) hb); have n1_ := Aside0.mk (below_step (by repeat (first | (with_reducible first | exact HB.out | apply zq5 | apply zq4 | apply zq6 | refine below_set ?_ GE308.out) | exact HB.out)) hb); have n2_ := Aside0.mk (hbox); have n3_ := Aside0.mk ((by rw [hg]; exact (below_size (by repeat (first | (with_reducible first | exact HB.out | apply zq5 | apply zq4 | apply zq6 | refine below_set ?_ GE308.out) | exact HB.out))) : w.heap.size ≤ gb312)); have n4_ := Aside0.mk ((by rw [hg]; exact (below_size (by repeat (first | (with_reducible first | exact HB.out | apply zq5 | apply zq4 | apply zq6 | refine below_set ?_ GE308.out) | exact HB.out))) : w.heap.size ≤ gb312)); have n5_ := Aside0.mk ((by rw [hg]; exact Nat.ne_of_lt (blk_lt (g := gb308) (o := .cells #[.slice (some ad311) l0_0.length c0_0] 24 (0, 0)) (by (with_reducible repeat (first | refine zq1 ?_ _ | refine zq2 ?_ | refine zq3 ?_ _)); exact BK308.out)) : gb308 ≠ gb312)); have n6_ := Aside0.mk ((by rw [hg]; exact Nat.ne_of_gt (blk_lt (g := gb308) (o := .cells #[.slice (some ad311) l0_0.length c0_0] 24 (0, 0)) (by (with_reducible repeat (first | refine zq1 ?_ _ | refine zq2 ?_ | refine zq3 ?_ _)); exact BK308.out)) : gb312 ≠ gb308)); clear BK308; clear HB; have BK308 := n0_; have HB := n1_; have BK312 := n2_; have GW312 := n3_; have GE312 := n4_; have NB308_312 := n5_; have NB312_308 := n6_; clear n0_ n1_ n2_ n3_ n4_ n5_ n6_; clear hb hbox hg; have hnb34 := NB312_308.out; have hnc34 := NB308_312.out; have hcz35_0 : w33.cell? ⟨gb312, 0, none⟩ = some (.slice none 0 0) := (blk_cell BK312.out 0).trans rfl; have hcz35_1 : w33.cell? ⟨gb312, 1, none⟩ = some (.slice none 0 0) := (blk_cell BK312.out 1).trans rfl; have hcz35_2 : w33.cell? ⟨gb312, 2, none⟩ = some (.int .i64 0) := (blk_cell BK312.out 2).trans rfl; have hcz35_3 : w33.cell? ⟨gb312, 3, none⟩ = some (.int .i64 0) := (blk_cell BK312.out 3).trans rfl; have hcz35_4 : w33.cell? ⟨gb312, 4, none⟩ = some (.slice none 0 0) := (blk_cell BK312.out 4).trans rfl; have hfz35_0 := blk_frozen BK312.out 0; have hfz35_1 := blk_frozen BK312.out 1; have hfz35_2 := blk_frozen BK312.out 2; have hfz35_3 := blk_frozen BK312.out 3; have hfz35_4 := blk_frozen BK312.out 4))
           have n0_ : Aside0 ((((((w33.setCell ⟨gb312, 0, none⟩ (.slice A311_0 ((rd_T30 l0_0 x5_1).f0).length c311_0)).setCell ⟨gb312, 1, none⟩ (.slice A311_1 ((rd_T30 l0_0 x5_1).f1).length c311_1)).setCell ⟨gb312, 2, none⟩ (.int .i64 ((rd_T30 l0_0 x5_1).f2))).setCell ⟨gb312, 3, none⟩ (.int .i64 ((rd_T30 l0_0 x5_1).f3))).setCell ⟨gb312, 4, none⟩ (.slice A311_4 ((rd_T30 l0_0 x5_1).f4).length c311_4)).heap[gb308]? = some (.cells #[.slice (some ad311) l0_0.length c0_0] 24 (0, 0))) := ⟨by (with_reducible repeat (first | refine zq1 ?_ _ | refine zq2 ?_ | refine zq3 ?_ _)); refine blk_far ?_ NB308_312.out _; (with_reducible repeat (first | refine zq1 ?_ _ | refine zq2 ?_ | refine zq3 ?_ _)); refine blk_far ?_ NB308_312.out _; (with_reducible repeat (first | refine zq1 ?_ _ | refine zq2 ?_ | refine zq3 ?_ _)); refine blk_far ?_ NB308_312.out _; (with_reducible repeat (first | refine zq1 ?_ _ | refine zq2 ?_ | refine zq3 ?_ _)); refine blk_far ?_ NB308_312.out _; (with_reducible repeat (first | refine zq1 ?_ _ | refine zq2 ?_ | refine zq3 ?_ _)); refine blk_far ?_ NB308_312.out _; (with_reducible repeat (first | refine zq1 ?_ _ | refine zq2 ?_ | refine zq3 ?_ _)); exact BK308.out⟩
           have n1_ : Aside0 ((((((w33.setCell ⟨gb312, 0, none⟩ (.slice A311_0 ((rd_T30 l0_0 x5_1).f0).length c311_0)).setCell ⟨gb312, 1, none⟩ (.slice A311_1 ((rd_T30 l0_0 x5_1).f1).length c311_1)).setCell ⟨gb312, 2, none⟩ (.int .i64 ((rd_T30 l0_0 x5_1).f2))).setCell ⟨gb312, 3, none⟩ (.int .i64 ((rd_T30 l0_0 x5_1).f3))).setCell ⟨gb312, 4, none⟩ (.slice A311_4 ((rd_T30 l0_0 x5_1).f4).length c311_4)).heap[gb312]? = some (.cells #[.slice A311_0 ((rd_T30 l0_0 x5_1).f0).length c311_0, .slice A311_1 ((rd_T30 l0_0 x5_1).f1).length c311_1, .int .i64 ((rd_T30 l0_0 x5_1).f2), .int .i64 ((rd_T30 l0_0 x5_1).f3), .slice A311_4 ((rd_T30 l0_0 x5_1).f4).length c311_4] 30 (0, 0))) := ⟨by (with_reducible repeat (first | refine zq1 ?_ _ | refine zq2 ?_ | refine zq3 ?_ _)); refine blk_put (cs := #[.slice A311_0 ((rd_T30 l0_0 x5_1).f0).length c311_0, .slice A311_1 ((rd_T30 l0_0 x5_1).f1).length c311_1, .int .i64 ((rd_T30 l0_0 x5_1).f2), .int .i64 ((rd_T30 l0_0 x5_1).f3), .slice none 0 0]) ?_ 4 _ rfl; (with_reducible repeat (first | refine zq1 ?_ _ | refine zq2 ?_ | refine zq3 ?_ _)); refine blk_put (cs := #[.slice A311_0 ((rd_T30 l0_0 x5_1).f0).length c311_0, .slice A311_1 ((rd_T30 l0_0 x5_1).f1).length c311_1, .int .i64 ((rd_T30 l0_0 x5_1).f2), .int .i64 0, .slice none 0 0]) ?_ 3 _ rfl; (with_reducible repeat (first | refine zq1 ?_ _ | refine zq2 ?_ | refine zq3 ?_ _)); refine blk_put (cs := #[.slice A311_0 ((rd_T30 l0_0 x5_1).f0).length c311_0, .slice A311_1 ((rd_T30 l0_0 x5_1).f1).length c311_1, .int .i64 0, .int .i64 0, .slice none 0 0]) ?_ 2 _ rfl; (with_reducible repeat (first | refine zq1 ?_ _ | refine zq2 ?_ | refine zq3 ?_ _)); refine blk_put (cs := #[.slice A311_0 ((rd_T30 l0_0 x5_1).f0).length c311_0, .slice none 0 0, .int .i64 0, .int .i64 0, .slice none 0 0]) ?_ 1 _ rfl; (with_reducible repeat (first | refine zq1 ?_ _ | refine zq2 ?_ | refine zq3 ?_ _)); refine blk_put (cs := #[.slice none 0 0, .slice none 0 0, .int .i64 0, .int .i64 0, .slice none 0 0]) ?_ 0 _ rfl; (with_reducible repeat (first | refine zq1 ?_ _ | refine zq2 ?_ | refine zq3 ?_ _)); exact BK312.out⟩
           have n2_ : Aside0 (Below w.heap.size w (((((w33.setCell ⟨gb312, 0, none⟩ (.slice A311_0 ((rd_T30 l0_0 x5_1).f0).length c311_0)).setCell ⟨gb312, 1, none⟩ (.slice A311_1 ((rd_T30 l0_0 x5_1).f1).length c311_1)).setCell ⟨gb312, 2, none⟩ (.int .i64 ((rd_T30 l0_0 x5_1).f2))).setCell ⟨gb312, 3, none⟩ (.int .i64 ((rd_T30 l0_0 x5_1).f3))).setCell ⟨gb312, 4, none⟩ (.slice A311_4 ((rd_T30 l0_0 x5_1).f4).length c311_4))) := ⟨by repeat (first | (with_reducible first | exact HB.out | apply zq5 | apply zq4 | apply zq6 | refine below_set ?_ GE308.out | refine below_set ?_ GE312.out) | exact HB.out)⟩
           (try clear BK308)
           (try clear BK312)
           (try clear HB)
           generalize (((((w33.setCell ⟨gb312, 0, none⟩ (.slice A311_0 ((rd_T30 l0_0 x5_1).f0).length c311_0)).setCell ⟨gb312, 1, none⟩ (.slice A311_1 ((rd_T30 l0_0 x5_1).f1).length c311_1)).setCell ⟨gb312, 2, none⟩ (.int .i64 ((rd_T30 l0_0 x5_1).f2))).setCell ⟨gb312, 3, none⟩ (.int .i64 ((rd_T30 l0_0 x5_1).f3))).setCell ⟨gb312, 4, none⟩ (.slice A311_4 ((rd_T30 l0_0 x5_1).f4).length c311_4)) = w36 at n0_ n1_ n2_ ⊢
           have BK308 := n0_
           have BK312 := n1_
           have HB := n2_
           clear n0_ n1_ n2_
           have n0_ := Aside0.mk (blk_drew BK308.out)
           have n1_ := Aside0.mk (blk_drew BK312.out)
           have n2_ := Aside0.mk (below_drew1 HB.out)
           clear BK308
           clear BK312
           clear HB
           have BK308 := n0_
           have BK312 := n1_
           have HB := n2_
           clear n0_ n1_ n2_
           refine start_ (n := 33) (S := fun w' => w'.cell? ⟨gb312, 0, none⟩ = some (.slice A311_0 ((rd_T30 l0_0 x5_1).f0).length c311_0) ∧ w'.cell? ⟨gb312, 1, none⟩ = some (.slice A311_1 ((rd_T30 l0_0 x5_1).f1).length c311_1) ∧ w'.cell? ⟨gb312, 2, none⟩ = some (.int .i64 ((rd_T30 l0_0 x5_1).f2)) ∧ w'.cell? ⟨gb312, 3, none⟩ = some (.int .i64 ((rd_T30 l0_0 x5_1).f3)) ∧ w'.cell? ⟨gb312, 4, none⟩ = some (.slice A311_4 ((rd_T30 l0_0 x5_1).f4).length c311_4)) (ds := []) #[false, false, false, false, false, false, false, false, false, false, false, false, false, false, false, false, false, false, false, false, false, false, false, false, false, false, false, false, false, false, false, false, false] (by kernel_rfl) rfl rfl ⟨(blk_cell BK312.out 0).trans rfl, (blk_cell BK312.out 1).trans rfl, (blk_cell BK312.out 2).trans rfl, (blk_cell BK312.out 3).trans rfl, (blk_cell BK312.out 4).trans rfl⟩ (fun hHeld => ?_); refine with_tabW portolanlaw05_FlowAsks.tab9 portolanlaw05_FlowAsks.bits9 (fun HT_ HW_ => ?_)
           generalize w36.drew = w37 at BK308 BK312 HB hHeld ⊢
           refine pure_ (i := 1) (N := some 24) (v := ?_) (a' := ?_) #[false, true, false, false, false, false, false, false, false, false, false, false, false, false, false, false, false, false, false, false, false, false, false, false, false, false, false, false, false, false, false, false, false] rfl rfl (any_of HT_.out (by kernel_rfl)) (fun _ _ _ h => h) (Or.inl ⟨by rfl, ?_⟩) ?_ ?_
           rotate_left
           ·intro w'
            go_simp
            with_reducible rfl
           rotate_left
           ·simp only [Act.put, List.setIfInBounds_toArray, List.set_cons_zero, List.set_cons_succ, i64_w, i32_w]
            rfl
           refine pure_ (i := 4) (N := some 27) (v := ?_) (a' := ?_) #[false, true, false, false, true, false, false, false, false, false, false, false, false, false, false, false, false, false, false, false, false, false, false, false, false, false, false, false, false, false, false, false, false] rfl rfl (any_of HT_.out (by kernel_rfl)) (fun _ _ _ h => h) (Or.inl ⟨by rfl, ?_⟩) ?_ ?_
           rotate_left
           ·intro w'
            go_simp
            with_reducible rfl
           rotate_left
           ·simp only [Act.put, List.setIfInBounds_toArray, List.set_cons_zero, List.set_cons_succ, i64_w, i32_w]
            rfl
           refine take_ (i := 0) (N := some 23) (v := ?_) (a' := ?_) #[true, true, false, false, true, false, false, false, false, false, false, false, false, false, false, false, false, false, false, false, false, false, false, false, false, false, false, false, false, false, false, false, false] rfl rfl (take_ofW HT_.out HW_.out (by kernel_rfl)) (fun _ _ _ h => h) (Or.inl ⟨by rfl, ?_⟩) hHeld ?_ ?_
           rotate_left
           ·rintro w' ⟨s0, s1, s2, s3, s4⟩
            go_simp
            with_reducible rfl
           rotate_left
           ·simp only [Act.put, List.setIfInBounds_toArray, List.set_cons_zero, List.set_cons_succ, i64_w, i32_w]
            rfl
           refine take_ (i := 3) (N := some 26) (v := ?_) (a' := ?_) #[true, true, false, true, true, false, false, false, false, false, false, false, false, false, false, false, false, false, false, false, false, false, false, false, false, false, false, false, false, false, false, false, false] rfl rfl (take_ofW HT_.out HW_.out (by kernel_rfl)) (fun _ _ _ h => h) (Or.inl ⟨by rfl, ?_⟩) hHeld ?_ ?_
           rotate_left
           ·rintro w' ⟨s0, s1, s2, s3, s4⟩
            go_simp
            with_reducible rfl
           rotate_left
           ·simp only [Act.put, List.setIfInBounds_toArray, List.set_cons_zero, List.set_cons_succ, i64_w, i32_w]
            rfl
           refine one_ (i := 2) (N := some 25) #[true, true, true, true, true, false, false, false, false, false, false, false, false, false, false, false, false, false, false, false, false, false, false, false, false, false, false, false, false, false, false, false, false] rfl rfl (one_of HT_.out (by kernel_rfl)) (by decide) (fun K hK => ?_)
           refine goes_ Try.func19 (by kernel_rfl) rfl #[.agg #[.slice A311_0 ((rd_T30 l0_0 x5_1).f0).length c311_0, .slice A311_1 ((rd_T30 l0_0 x5_1).f1).length c311_1, .int .i64 ((rd_T30 l0_0 x5_1).f2), .int .i64 ((rd_T30 l0_0 x5_1).f3), .slice A311_4 ((rd_T30 l0_0 x5_1).f4).length c311_4], .int .i64 a1] (by rfl) rfl rfl (by (try simp only [List.map_toArray, List.map_cons, List.map_nil]); first | done | rfl | (simp only [List.length_drop, List.length_take]; rfl)) ?_
           with_reducible refine (flow_Next.calls k1 _ _ ((rd_T30 l0_0 x5_1).f0) _ _ ((rd_T30 l0_0 x5_1).f1) ((rd_T30 l0_0 x5_1).f2) ((rd_T30 l0_0 x5_1).f3) _ _ ((rd_T30 l0_0 x5_1).f4) a1 t313 _ ?side1 ?side2 ?side3 ?side4 ?side5 ?side6 A17.out).mono ?_
           (case side1 => repeat (first | exact (Kd.C_below HR311_0.out HB.out) | (with_reducible refine Kd.C_alloc ?_ _) | (with_reducible refine Kd.C_drewN ?_ _) | (with_reducible refine Kd.C_drew ?_)))
           (case side2 => exact HC311_0.out)
           (case side3 => repeat (first | exact (Kd.C_below HR311_1.out HB.out) | (with_reducible refine Kd.C_alloc ?_ _) | (with_reducible refine Kd.C_drewN ?_ _) | (with_reducible refine Kd.C_drew ?_)))
           (case side4 => exact HC311_1.out)
           (case side5 => repeat (first | exact (Kd.C_below HR311_4.out HB.out) | (with_reducible refine Kd.C_alloc ?_ _) | (with_reducible refine Kd.C_drewN ?_ _) | (with_reducible refine Kd.C_drew ?_)))
           (case side6 => exact HC311_4.out)
           rintro e w38 ⟨v314, rfl, ho0, hb⟩
           refine ⟨_, rfl, ?_⟩
           have n0_ := Aside0.mk (Kd.R_lower ho0 (below_size (by repeat (first | (with_reducible first | exact HB.out | apply zq5 | apply zq4 | apply zq6 | refine below_set ?_ GE308.out | refine below_set ?_ GE312.out) | exact HB.out))))
           have n1_ := Aside0.mk (blk_below (g := gb308) (o := .cells #[.slice (some ad311) l0_0.length c0_0] 24 (0, 0)) (by (with_reducible repeat (first | refine zq1 ?_ _ | refine zq2 ?_ | refine zq3 ?_ _)); exact BK308.out) hb)
           have n2_ := Aside0.mk (blk_below (g := gb312) (o := .cells #[.slice A311_0 ((rd_T30 l0_0 x5_1).f0).length c311_0, .slice A311_1 ((rd_T30 l0_0 x5_1).f1).length c311_1, .int .i64 ((rd_T30 l0_0 x5_1).f2), .int .i64 ((rd_T30 l0_0 x5_1).f3), .slice A311_4 ((rd_T30 l0_0 x5_1).f4).length c311_4] 30 (0, 0)) (by (with_reducible repeat (first | refine zq1 ?_ _ | refine zq2 ?_ | refine zq3 ?_ _)); exact BK312.out) hb)
           have n3_ := Aside0.mk (below_step (by repeat (first | (with_reducible first | exact HB.out | apply zq5 | apply zq4 | apply zq6 | refine below_set ?_ GE308.out | refine below_set ?_ GE312.out) | exact HB.out)) hb)
           clear BK308
           clear BK312
           clear HB
           have HO315 := n0_
           have BK308 := n1_
           have BK312 := n2_
           have HB := n3_
           clear n0_ n1_ n2_ n3_
           (try clear hb)
           (try clear hb2)
           (try clear hk)
           (try clear hi)
           (try clear ho0)
           refine hK.out _ _ ⟨(blk_cell BK312.out 0).trans rfl, (blk_cell BK312.out 1).trans rfl, (blk_cell BK312.out 2).trans rfl, (blk_cell BK312.out 3).trans rfl, (blk_cell BK312.out 4).trans rfl⟩ (fun hHeld => ?_)
           clear hK K
           refine norm_ (a' := ?_) ?_ ?_
           rotate_left
           ·show Act.put _ (some 25) _ = _
            simp only [Act.put, List.setIfInBounds_toArray, List.set_cons_zero, List.set_cons_succ, i64_w, i32_w]
            rfl
           refine one_ (i := 5) (N := some 28) #[true, true, true, true, true, true, false, false, false, false, false, false, false, false, false, false, false, false, false, false, false, false, false, false, false, false, false, false, false, false, false, false, false] rfl rfl (one_of HT_.out (by kernel_rfl)) (by decide) (fun K hK => ?_)
           refine goes_ Try.func20 (by kernel_rfl) rfl #[.agg #[.slice A311_0 ((rd_T30 l0_0 x5_1).f0).length c311_0, .slice A311_1 ((rd_T30 l0_0 x5_1).f1).length c311_1, .int .i64 ((rd_T30 l0_0 x5_1).f2), .int .i64 ((rd_T30 l0_0 x5_1).f3), .slice A311_4 ((rd_T30 l0_0 x5_1).f4).length c311_4], .int .i64 a1] (by rfl) rfl rfl (by (try simp only [List.map_toArray, List.map_cons, List.map_nil]); first | done | rfl | (simp only [List.length_drop, List.length_take]; rfl)) ?_
           with_reducible refine (portolanref05_Next.calls _ _ ((rd_T30 l0_0 x5_1).f0) _ _ ((rd_T30 l0_0 x5_1).f1) ((rd_T30 l0_0 x5_1).f2) ((rd_T30 l0_0 x5_1).f3) _ _ ((rd_T30 l0_0 x5_1).f4) a1 t316 _ ?side1 ?side2 ?side3 ?side4 ?side5 ?side6 A18.out).mono ?_
           (case side1 => repeat (first | exact (Kd.C_below HR311_0.out HB.out) | (with_reducible refine Kd.C_alloc ?_ _) | (with_reducible refine Kd.C_drewN ?_ _) | (with_reducible refine Kd.C_drew ?_)))
           (case side2 => exact HC311_0.out)
           (case side3 => repeat (first | exact (Kd.C_below HR311_1.out HB.out) | (with_reducible refine Kd.C_alloc ?_ _) | (with_reducible refine Kd.C_drewN ?_ _) | (with_reducible refine Kd.C_drew ?_)))
           (case side4 => exact HC311_1.out)
           (case side5 => repeat (first | exact (Kd.C_below HR311_4.out HB.out) | (with_reducible refine Kd.C_alloc ?_ _) | (with_reducible refine Kd.C_drewN ?_ _) | (with_reducible refine Kd.C_drew ?_)))
           (case side6 => exact HC311_4.out)
           rintro e w39 ⟨v317, rfl, ho0, hb⟩
           refine ⟨_, rfl, ?_⟩
           have n0_ := Aside0.mk (Kd.R_elder' (by (with_reducible repeat (first | apply Kd.R_alloc | apply Kd.R_drewN | apply Kd.R_drew)); exact HO315.out) (Kd.R_base ho0) hb)
           have n1_ := Aside0.mk (Kd.R_lower (Kd.R_new' ho0 (Kd.R_lt (by (with_reducible repeat (first | apply Kd.R_alloc | apply Kd.R_drewN | apply Kd.R_drew)); exact HO315.out))) (below_size (by repeat (first | (with_reducible first | exact HB.out | apply zq5 | apply zq4 | apply zq6 | refine below_set ?_ GE308.out | refine below_set ?_ GE312.out) | exact HB.out))))
           have n2_ := Aside0.mk (blk_below (g := gb308) (o := .cells #[.slice (some ad311) l0_0.length c0_0] 24 (0, 0)) (by (with_reducible repeat (first | refine zq1 ?_ _ | refine zq2 ?_ | refine zq3 ?_ _)); exact BK308.out) hb)
           have n3_ := Aside0.mk (blk_below (g := gb312) (o := .cells #[.slice A311_0 ((rd_T30 l0_0 x5_1).f0).length c311_0, .slice A311_1 ((rd_T30 l0_0 x5_1).f1).length c311_1, .int .i64 ((rd_T30 l0_0 x5_1).f2), .int .i64 ((rd_T30 l0_0 x5_1).f3), .slice A311_4 ((rd_T30 l0_0 x5_1).f4).length c311_4] 30 (0, 0)) (by (with_reducible repeat (first | refine zq1 ?_ _ | refine zq2 ?_ | refine zq3 ?_ _)); exact BK312.out) hb)
           have n4_ := Aside0.mk (below_step (by repeat (first | (with_reducible first | exact HB.out | apply zq5 | apply zq4 | apply zq6 | refine below_set ?_ GE308.out | refine below_set ?_ GE312.out) | exact HB.out)) hb)
           clear HO315
           clear BK308
           clear BK312
           clear HB
           have HO315 := n0_
           have HO318 := n1_
           have BK308 := n2_
           have BK312 := n3_
           have HB := n4_
           clear n0_ n1_ n2_ n3_ n4_
           (try clear hb)
           (try clear hb2)
           (try clear hk)
           (try clear hi)
           (try clear ho0)
           obtain ⟨Ao40, co40, eo40⟩ := Kd.R_slice HO315.out
           (first | subst eo40 | (injection eo40 with f1_ f2_ f3_; have f4_ := f1_.symm; have f5_ := f3_.symm; clear f1_ f2_ f3_; subst f4_; subst f5_))
           obtain ⟨Ao41, co41, eo41⟩ := Kd.R_slice HO318.out
           (first | subst eo41 | (injection eo41 with f1_ f2_ f3_; have f4_ := f1_.symm; have f5_ := f3_.symm; clear f1_ f2_ f3_; subst f4_; subst f5_))
           refine hK.out _ _ ⟨(blk_cell BK312.out 0).trans rfl, (blk_cell BK312.out 1).trans rfl, (blk_cell BK312.out 2).trans rfl, (blk_cell BK312.out 3).trans rfl, (blk_cell BK312.out 4).trans rfl⟩ (fun hHeld => ?_)
           clear hK K
           refine norm_ (a' := ?_) ?_ ?_
           rotate_left
           ·show Act.put _ (some 28) _ = _
            simp only [Act.put, List.setIfInBounds_toArray, List.set_cons_zero, List.set_cons_succ, i64_w, i32_w]
            rfl
           refine one_ (i := 6) (N := some 29) #[true, true, true, true, true, true, true, false, false, false, false, false, false, false, false, false, false, false, false, false, false, false, false, false, false, false, false, false, false, false, false, false, false] rfl rfl (one_of HT_.out (by kernel_rfl)) (by decide) (fun K hK => ?_)
           refine goes_ Try.func18 (by kernel_rfl) rfl #[.slice Ao40 t313.length co40, .slice Ao41 t316.length co41] (by rfl) rfl rfl (by (try simp only [List.map_toArray, List.map_cons, List.map_nil]); first | done | rfl | (simp only [List.length_drop, List.length_take]; rfl)) ?_
           with_reducible refine (portolanref01_Ints.calls k1 _ _ t313 _ _ t316 true _ ?side1 ?side2 ?side3 ?side4 A19.out).mono ?_
           (case side1 => repeat (first | exact (Kd.R_reads' HO315.out).2.2 | (with_reducible refine Kd.C_alloc ?_ _) | (with_reducible refine Kd.C_drewN ?_ _) | (with_reducible refine Kd.C_drew ?_)))
           (case side2 => exact (Kd.R_reads' HO315.out).2.1)
           (case side3 => repeat (first | exact (Kd.R_reads' HO318.out).2.2 | (with_reducible refine Kd.C_alloc ?_ _) | (with_reducible refine Kd.C_drewN ?_ _) | (with_reducible refine Kd.C_drew ?_)))
           (case side4 => exact (Kd.R_reads' HO318.out).2.1)
           rintro e w' ⟨rfl, ⟨nd, rfl⟩⟩
           refine ⟨_, rfl, ?_⟩
           refine hK.out _ _ ⟨(blk_cell BK312.out 0).trans rfl, (blk_cell BK312.out 1).trans rfl, (blk_cell BK312.out 2).trans rfl, (blk_cell BK312.out 3).trans rfl, (blk_cell BK312.out 4).trans rfl⟩ (fun hHeld => ?_)
           clear hK K
           refine norm_ (a' := ?_) ?_ ?_
           rotate_left
           ·show Act.put _ (some 29) _ = _
            simp only [Act.put, List.setIfInBounds_toArray, List.set_cons_zero, List.set_cons_succ, i64_w, i32_w]
            rfl
           refine pure_ (i := 7) (N := some 30) (v := ?_) (a' := ?_) #[true, true, true, true, true, true, true, true, false, false, false, false, false, false, false, false, false, false, false, false, false, false, false, false, false, false, false, false, false, false, false, false, false] rfl rfl (any_of HT_.out (by kernel_rfl)) (fun _ _ _ h => h) (Or.inl ⟨by rfl, ?_⟩) ?_ ?_
           rotate_left
           ·intro w'
            go_simp
            with_reducible rfl
           rotate_left
           ·simp only [Act.put, List.setIfInBounds_toArray, List.set_cons_zero, List.set_cons_succ, i64_w, i32_w]
            rfl
           refine pure_ (i := 8) (N := some 31) (v := ?_) (a' := ?_) #[true, true, true, true, true, true, true, true, true, false, false, false, false, false, false, false, false, false, false, false, false, false, false, false, false, false, false, false, false, false, false, false, false] rfl rfl (any_of HT_.out (by kernel_rfl)) (fun _ _ _ h => h) (Or.inl ⟨by rfl, ?_⟩) ?_ ?_
           rotate_left
           ·intro w'
            go_simp
            with_reducible rfl
           rotate_left
           ·simp only [Act.put, List.setIfInBounds_toArray, List.set_cons_zero, List.set_cons_succ, i64_w, i32_w]
            rfl
           refine pure_ (i := 10) (N := some 33) (v := ?_) (a' := ?_) #[true, true, true, true, true, true, true, true, true, false, true, false, false, false, false, false, false, false, false, false, false, false, false, false, false, false, false, false, false, false, false, false, false] rfl rfl (any_of HT_.out (by kernel_rfl)) (fun _ _ _ h => h) (Or.inl ⟨by rfl, ?_⟩) ?_ ?_
           rotate_left
           ·intro w'
            go_simp
            with_reducible rfl
           rotate_left
           ·simp only [Act.put, List.setIfInBounds_toArray, List.set_cons_zero, List.set_cons_succ, i64_w, i32_w]
            rfl
           refine pure_ (i := 13) (N := some 36) (v := ?_) (a' := ?_) #[true, true, true, true, true, true, true, true, true, false, true, false, false, true, false, false, false, false, false, false, false, false, false, false, false, false, false, false, false, false, false, false, false] rfl rfl (any_of HT_.out (by kernel_rfl)) (fun _ _ _ h => h) (Or.inl ⟨by rfl, ?_⟩) ?_ ?_
           rotate_left
           ·intro w'
            go_simp
            with_reducible rfl
           rotate_left
           ·simp only [Act.put, List.setIfInBounds_toArray, List.set_cons_zero, List.set_cons_succ, i64_w, i32_w]
            rfl
           refine take_ (i := 9) (N := some 32) (v := ?_) (a' := ?_) #[true, true, true, true, true, true, true, true, true, true, true, false, false, true, false, false, false, false, false, false, false, false, false, false, false, false, false, false, false, false, false, false, false] rfl rfl (take_ofW HT_.out HW_.out (by kernel_rfl)) (fun _ _ _ h => h) (Or.inl ⟨by rfl, ?_⟩) hHeld ?_ ?_
           rotate_left
           ·rintro w' ⟨s0, s1, s2, s3, s4⟩
            go_simp
            with_reducible rfl
           rotate_left
           ·simp only [Act.put, List.setIfInBounds_toArray, List.set_cons_zero, List.set_cons_succ, i64_w, i32_w]
            rfl
           refine take_ (i := 12) (N := some 35) (v := ?_) (a' := ?_) #[true, true, true, true, true, true, true, true, true, true, true, false, true, true, false, false, false, false, false, false, false, false, false, false, false, false, false, false, false, false, false, false, false] rfl rfl (take_ofW HT_.out HW_.out (by kernel_rfl)) (fun _ _ _ h => h) (Or.inl ⟨by rfl, ?_⟩) hHeld ?_ ?_
           rotate_left
           ·rintro w' ⟨s0, s1, s2, s3, s4⟩
            go_simp
            with_reducible rfl
           rotate_left
           ·simp only [Act.put, List.setIfInBounds_toArray, List.set_cons_zero, List.set_cons_succ, i64_w, i32_w]
            rfl
           refine one_ (i := 11) (N := some 34) #[true, true, true, true, true, true, true, true, true, true, true, true, true, true, false, false, false, false, false, false, false, false, false, false, false, false, false, false, false, false, false, false, false] rfl rfl (one_of HT_.out (by kernel_rfl)) (by decide) (fun K hK => ?_)
           refine goes_ Try.func21 (by kernel_rfl) rfl #[.agg #[.slice A311_0 ((rd_T30 l0_0 x5_1).f0).length c311_0, .slice A311_1 ((rd_T30 l0_0 x5_1).f1).length c311_1, .int .i64 ((rd_T30 l0_0 x5_1).f2), .int .i64 ((rd_T30 l0_0 x5_1).f3), .slice A311_4 ((rd_T30 l0_0 x5_1).f4).length c311_4], .int .i64 a1] (by rfl) rfl rfl (by (try simp only [List.map_toArray, List.map_cons, List.map_nil]); first | done | rfl | (simp only [List.length_drop, List.length_take]; rfl)) ?_
           with_reducible refine (flow_Prev.calls k1 _ _ ((rd_T30 l0_0 x5_1).f0) _ _ ((rd_T30 l0_0 x5_1).f1) ((rd_T30 l0_0 x5_1).f2) ((rd_T30 l0_0 x5_1).f3) _ _ ((rd_T30 l0_0 x5_1).f4) a1 t320 _ ?side1 ?side2 ?side3 ?side4 ?side5 ?side6 A21.out).mono ?_
           (case side1 => repeat (first | exact (Kd.C_below HR311_0.out (by repeat (first | (with_reducible first | exact HB.out | apply zq5 | apply zq4 | apply zq6 | refine below_set ?_ GE308.out | refine below_set ?_ GE312.out) | exact HB.out))) | (with_reducible refine Kd.C_alloc ?_ _) | (with_reducible refine Kd.C_drewN ?_ _) | (with_reducible refine Kd.C_drew ?_)))
           (case side2 => exact HC311_0.out)
           (case side3 => repeat (first | exact (Kd.C_below HR311_1.out (by repeat (first | (with_reducible first | exact HB.out | apply zq5 | apply zq4 | apply zq6 | refine below_set ?_ GE308.out | refine below_set ?_ GE312.out) | exact HB.out))) | (with_reducible refine Kd.C_alloc ?_ _) | (with_reducible refine Kd.C_drewN ?_ _) | (with_reducible refine Kd.C_drew ?_)))
           (case side4 => exact HC311_1.out)
           (case side5 => repeat (first | exact (Kd.C_below HR311_4.out (by repeat (first | (with_reducible first | exact HB.out | apply zq5 | apply zq4 | apply zq6 | refine below_set ?_ GE308.out | refine below_set ?_ GE312.out) | exact HB.out))) | (with_reducible refine Kd.C_alloc ?_ _) | (with_reducible refine Kd.C_drewN ?_ _) | (with_reducible refine Kd.C_drew ?_)))
           (case side6 => exact HC311_4.out)
           rintro e w42 ⟨v321, rfl, ho0, hb⟩
           refine ⟨_, rfl, ?_⟩
           have n0_ := Aside0.mk (Kd.R_elder' (by (with_reducible repeat (first | apply Kd.R_alloc | apply Kd.R_drewN | apply Kd.R_drew)); exact HO315.out) (Kd.R_base ho0) hb)
           have n1_ := Aside0.mk (Kd.R_elder' (by (with_reducible repeat (first | apply Kd.R_alloc | apply Kd.R_drewN | apply Kd.R_drew)); exact HO318.out) (Kd.R_base ho0) hb)
           have n2_ := Aside0.mk (Kd.R_lower (Kd.R_new' (Kd.R_new' ho0 (Kd.R_lt (by (with_reducible repeat (first | apply Kd.R_alloc | apply Kd.R_drewN | apply Kd.R_drew)); exact HO315.out))) (Kd.R_lt (by (with_reducible repeat (first | apply Kd.R_alloc | apply Kd.R_drewN | apply Kd.R_drew)); exact HO318.out))) (below_size (by repeat (first | (with_reducible first | exact HB.out | apply zq5 | apply zq4 | apply zq6 | refine below_set ?_ GE308.out | refine below_set ?_ GE312.out) | exact HB.out))))
           have n3_ := Aside0.mk (blk_below (g := gb308) (o := .cells #[.slice (some ad311) l0_0.length c0_0] 24 (0, 0)) (by (with_reducible repeat (first | refine zq1 ?_ _ | refine zq2 ?_ | refine zq3 ?_ _)); exact BK308.out) hb)
           have n4_ := Aside0.mk (blk_below (g := gb312) (o := .cells #[.slice A311_0 ((rd_T30 l0_0 x5_1).f0).length c311_0, .slice A311_1 ((rd_T30 l0_0 x5_1).f1).length c311_1, .int .i64 ((rd_T30 l0_0 x5_1).f2), .int .i64 ((rd_T30 l0_0 x5_1).f3), .slice A311_4 ((rd_T30 l0_0 x5_1).f4).length c311_4] 30 (0, 0)) (by (with_reducible repeat (first | refine zq1 ?_ _ | refine zq2 ?_ | refine zq3 ?_ _)); exact BK312.out) hb)
           have n5_ := Aside0.mk (below_step (by repeat (first | (with_reducible first | exact HB.out | apply zq5 | apply zq4 | apply zq6 | refine below_set ?_ GE308.out | refine below_set ?_ GE312.out) | exact HB.out)) hb)
           clear HO315
           clear HO318
           clear BK308
           clear BK312
           clear HB
           have HO315 := n0_
           have HO318 := n1_
           have HO322 := n2_
           have BK308 := n3_
           have BK312 := n4_
           have HB := n5_
           clear n0_ n1_ n2_ n3_ n4_ n5_
           (try clear hb)
           (try clear hb2)
           (try clear hk)
           (try clear hi)
           (try clear ho0)
           refine hK.out _ _ ⟨(blk_cell BK312.out 0).trans rfl, (blk_cell BK312.out 1).trans rfl, (blk_cell BK312.out 2).trans rfl, (blk_cell BK312.out 3).trans rfl, (blk_cell BK312.out 4).trans rfl⟩ (fun hHeld => ?_)
           clear hK K
           refine norm_ (a' := ?_) ?_ ?_
           rotate_left
           ·show Act.put _ (some 34) _ = _
            simp only [Act.put, List.setIfInBounds_toArray, List.set_cons_zero, List.set_cons_succ, i64_w, i32_w]
            rfl
           refine one_ (i := 14) (N := some 37) #[true, true, true, true, true, true, true, true, true, true, true, true, true, true, true, false, false, false, false, false, false, false, false, false, false, false, false, false, false, false, false, false, false] rfl rfl (one_of HT_.out (by kernel_rfl)) (by decide) (fun K hK => ?_)
           refine goes_ Try.func22 (by kernel_rfl) rfl #[.agg #[.slice A311_0 ((rd_T30 l0_0 x5_1).f0).length c311_0, .slice A311_1 ((rd_T30 l0_0 x5_1).f1).length c311_1, .int .i64 ((rd_T30 l0_0 x5_1).f2), .int .i64 ((rd_T30 l0_0 x5_1).f3), .slice A311_4 ((rd_T30 l0_0 x5_1).f4).length c311_4], .int .i64 a1] (by rfl) rfl rfl (by (try simp only [List.map_toArray, List.map_cons, List.map_nil]); first | done | rfl | (simp only [List.length_drop, List.length_take]; rfl)) ?_
           with_reducible refine (portolanref05_Prev.calls k1 _ _ ((rd_T30 l0_0 x5_1).f0) _ _ ((rd_T30 l0_0 x5_1).f1) ((rd_T30 l0_0 x5_1).f2) ((rd_T30 l0_0 x5_1).f3) _ _ ((rd_T30 l0_0 x5_1).f4) a1 t323 _ ?side1 ?side2 ?side3 ?side4 ?side5 ?side6 A22.out).mono ?_
           (case side1 => repeat (first | exact (Kd.C_below HR311_0.out HB.out) | (with_reducible refine Kd.C_alloc ?_ _) | (with_reducible refine Kd.C_drewN ?_ _) | (with_reducible refine Kd.C_drew ?_)))
           (case side2 => exact HC311_0.out)
           (case side3 => repeat (first | exact (Kd.C_below HR311_1.out HB.out) | (with_reducible refine Kd.C_alloc ?_ _) | (with_reducible refine Kd.C_drewN ?_ _) | (with_reducible refine Kd.C_drew ?_)))
           (case side4 => exact HC311_1.out)
           (case side5 => repeat (first | exact (Kd.C_below HR311_4.out HB.out) | (with_reducible refine Kd.C_alloc ?_ _) | (with_reducible refine Kd.C_drewN ?_ _) | (with_reducible refine Kd.C_drew ?_)))
           (case side6 => exact HC311_4.out)
           rintro e w43 ⟨v324, rfl, ho0, hb⟩
           refine ⟨_, rfl, ?_⟩
           have n0_ := Aside0.mk (Kd.R_elder' (by (with_reducible repeat (first | apply Kd.R_alloc | apply Kd.R_drewN | apply Kd.R_drew)); exact HO315.out) (Kd.R_base ho0) hb)
           have n1_ := Aside0.mk (Kd.R_elder' (by (with_reducible repeat (first | apply Kd.R_alloc | apply Kd.R_drewN | apply Kd.R_drew)); exact HO318.out) (Kd.R_base ho0) hb)
           have n2_ := Aside0.mk (Kd.R_elder' (by (with_reducible repeat (first | apply Kd.R_alloc | apply Kd.R_drewN | apply Kd.R_drew)); exact HO322.out) (Kd.R_base ho0) hb)
           have n3_ := Aside0.mk (Kd.R_lower (Kd.R_new' (Kd.R_new' (Kd.R_new' ho0 (Kd.R_lt (by (with_reducible repeat (first | apply Kd.R_alloc | apply Kd.R_drewN | apply Kd.R_drew)); exact HO315.out))) (Kd.R_lt (by (with_reducible repeat (first | apply Kd.R_alloc | apply Kd.R_drewN | apply Kd.R_drew)); exact HO318.out))) (Kd.R_lt (by (with_reducible repeat (first | apply Kd.R_alloc | apply Kd.R_drewN | apply Kd.R_drew)); exact HO322.out))) (below_size (by repeat (first | (with_reducible first | exact HB.out | apply zq5 | apply zq4 | apply zq6 | refine below_set ?_ GE308.out | refine below_set ?_ GE312.out) | exact HB.out))))
           have n4_ := Aside0.mk (blk_below (g := gb308) (o := .cells #[.slice (some ad311) l0_0.length c0_0] 24 (0, 0)) (by (with_reducible repeat (first | refine zq1 ?_ _ | refine zq2 ?_ | refine zq3 ?_ _)); exact BK308.out) hb)
           have n5_ := Aside0.mk (blk_below (g := gb312) (o := .cells #[.slice A311_0 ((rd_T30 l0_0 x5_1).f0).length c311_0, .slice A311_1 ((rd_T30 l0_0 x5_1).f1).length c311_1, .int .i64 ((rd_T30 l0_0 x5_1).f2), .int .i64 ((rd_T30 l0_0 x5_1).f3), .slice A311_4 ((rd_T30 l0_0 x5_1).f4).length c311_4] 30 (0, 0)) (by (with_reducible repeat (first | refine zq1 ?_ _ | refine zq2 ?_ | refine zq3 ?_ _)); exact BK312.out) hb)
           have n6_ := Aside0.mk (below_step (by repeat (first | (with_reducible first | exact HB.out | apply zq5 | apply zq4 | apply zq6 | refine below_set ?_ GE308.out | refine below_set ?_ GE312.out) | exact HB.out)) hb)
           clear HO315
           clear HO318
           clear HO322
           clear BK308
           clear BK312
           clear HB
           have HO315 := n0_
           have HO318 := n1_
           have HO322 := n2_
           have HO325 := n3_
           have BK308 := n4_
           have BK312 := n5_
           have HB := n6_
           clear n0_ n1_ n2_ n3_ n4_ n5_ n6_
           (try clear hb)
           (try clear hb2)
           (try clear hk)
           (try clear hi)
           (try clear ho0)
           obtain ⟨Ao44, co44, eo44⟩ := Kd.R_slice HO322.out
           (first | subst eo44 | (injection eo44 with f1_ f2_ f3_; have f4_ := f1_.symm; have f5_ := f3_.symm; clear f1_ f2_ f3_; subst f4_; subst f5_))
           obtain ⟨Ao45, co45, eo45⟩ := Kd.R_slice HO325.out
           (first | subst eo45 | (injection eo45 with f1_ f2_ f3_; have f4_ := f1_.symm; have f5_ := f3_.symm; clear f1_ f2_ f3_; subst f4_; subst f5_))
           refine hK.out _ _ ⟨(blk_cell BK312.out 0).trans rfl, (blk_cell BK312.out 1).trans rfl, (blk_cell BK312.out 2).trans rfl, (blk_cell BK312.out 3).trans rfl, (blk_cell BK312.out 4).trans rfl⟩ (fun hHeld => ?_)
           clear hK K
           refine norm_ (a' := ?_) ?_ ?_
           rotate_left
           ·show Act.put _ (some 37) _ = _
            simp only [Act.put, List.setIfInBounds_toArray, List.set_cons_zero, List.set_cons_succ, i64_w, i32_w]
            rfl
           refine one_ (i := 15) (N := some 38) #[true, true, true, true, true, true, true, true, true, true, true, true, true, true, true, true, false, false, false, false, false, false, false, false, false, false, false, false, false, false, false, false, false] rfl rfl (one_of HT_.out (by kernel_rfl)) (by decide) (fun K hK => ?_)
           refine goes_ Try.func18 (by kernel_rfl) rfl #[.slice Ao44 t320.length co44, .slice Ao45 t323.length co45] (by rfl) rfl rfl (by (try simp only [List.map_toArray, List.map_cons, List.map_nil]); first | done | rfl | (simp only [List.length_drop, List.length_take]; rfl)) ?_
           with_reducible refine (portolanref01_Ints.calls k1 _ _ t320 _ _ t323 true _ ?side1 ?side2 ?side3 ?side4 A23.out).mono ?_
           (case side1 => repeat (first | exact (Kd.R_reads' HO322.out).2.2 | (with_reducible refine Kd.C_alloc ?_ _) | (with_reducible refine Kd.C_drewN ?_ _) | (with_reducible refine Kd.C_drew ?_)))
           (case side2 => exact (Kd.R_reads' HO322.out).2.1)
           (case side3 => repeat (first | exact (Kd.R_reads' HO325.out).2.2 | (with_reducible refine Kd.C_alloc ?_ _) | (with_reducible refine Kd.C_drewN ?_ _) | (with_reducible refine Kd.C_drew ?_)))
           (case side4 => exact (Kd.R_reads' HO325.out).2.1)
           rintro e w' ⟨rfl, ⟨nd, rfl⟩⟩
           refine ⟨_, rfl, ?_⟩
           refine hK.out _ _ ⟨(blk_cell BK312.out 0).trans rfl, (blk_cell BK312.out 1).trans rfl, (blk_cell BK312.out 2).trans rfl, (blk_cell BK312.out 3).trans rfl, (blk_cell BK312.out 4).trans rfl⟩ (fun hHeld => ?_)
           clear hK K
           refine norm_ (a' := ?_) ?_ ?_
           rotate_left
           ·show Act.put _ (some 38) _ = _
            simp only [Act.put, List.setIfInBounds_toArray, List.set_cons_zero, List.set_cons_succ, i64_w, i32_w]
            rfl
           refine pure_ (i := 16) (N := some 39) (v := ?_) (a' := ?_) #[true, true, true, true, true, true, true, true, true, true, true, true, true, true, true, true, true, false, false, false, false, false, false, false, false, false, false, false, false, false, false, false, false] rfl rfl (any_of HT_.out (by kernel_rfl)) (fun _ _ _ h => h) (Or.inl ⟨by rfl, ?_⟩) ?_ ?_
           rotate_left
           ·intro w'
            go_simp
            with_reducible rfl
           rotate_left
           ·simp only [Act.put, List.setIfInBounds_toArray, List.set_cons_zero, List.set_cons_succ, i64_w, i32_w]
            rfl
           refine pure_ (i := 17) (N := some 40) (v := ?_) (a' := ?_) #[true, true, true, true, true, true, true, true, true, true, true, true, true, true, true, true, true, true, false, false, false, false, false, false, false, false, false, false, false, false, false, false, false] rfl rfl (any_of HT_.out (by kernel_rfl)) (fun _ _ _ h => h) (Or.inl ⟨by rfl, ?_⟩) ?_ ?_
           rotate_left
           ·intro w'
            go_simp
            with_reducible rfl
           rotate_left
           ·simp only [Act.put, List.setIfInBounds_toArray, List.set_cons_zero, List.set_cons_succ, i64_w, i32_w]
            rfl
           refine pure_ (i := 18) (N := some 41) (v := ?_) (a' := ?_) #[true, true, true, true, true, true, true, true, true, true, true, true, true, true, true, true, true, true, true, false, false, false, false, false, false, false, false, false, false, false, false, false, false] rfl rfl (any_of HT_.out (by kernel_rfl)) (fun _ _ _ h => h) (Or.inl ⟨by rfl, ?_⟩) ?_ ?_
           rotate_left
           ·intro w'
            go_simp
            with_reducible rfl
           rotate_left
           ·simp only [Act.put, List.setIfInBounds_toArray, List.set_cons_zero, List.set_cons_succ, i64_w, i32_w]
            rfl
           refine take_ (i := 19) (N := some 42) (v := ?_) (a' := ?_) #[true, true, true, true, true, true, true, true, true, true, true, true, true, true, true, true, true, true, true, true, false, false, false, false, false, false, false, false, false, false, false, false, false] rfl rfl (take_ofW HT_.out HW_.out (by kernel_rfl)) (fun _ _ _ h => h) (Or.inl ⟨by rfl, ?_⟩) hHeld ?_ ?_
           rotate_left
           ·rintro w' ⟨s0, s1, s2, s3, s4⟩
            go_simp
            with_reducible rfl
           rotate_left
           ·simp only [Act.put, List.setIfInBounds_toArray, List.set_cons_zero, List.set_cons_succ, i64_w, i32_w]
            rfl
           refine take_ (i := 21) (N := some 44) (v := ?_) (a' := ?_) #[true, true, true, true, true, true, true, true, true, true, true, true, true, true, true, true, true, true, true, true, false, true, false, false, false, false, false, false, false, false, false, false, false] rfl rfl (take_ofW HT_.out HW_.out (by kernel_rfl)) (fun _ _ _ h => h) (Or.inl ⟨by rfl, ?_⟩) hHeld ?_ ?_
           rotate_left
           ·rintro w' ⟨s0, s1, s2, s3, s4⟩
            go_simp
            with_reducible rfl
           rotate_left
           ·simp only [Act.put, List.setIfInBounds_toArray, List.set_cons_zero, List.set_cons_succ, i64_w, i32_w]
            rfl
           refine one_ (i := 20) (N := some 43) #[true, true, true, true, true, true, true, true, true, true, true, true, true, true, true, true, true, true, true, true, true, true, false, false, false, false, false, false, false, false, false, false, false] rfl rfl (one_of HT_.out (by kernel_rfl)) (by decide) (fun K hK => ?_)
           refine goes_ Try.func24 (by kernel_rfl) rfl #[.agg #[.slice A311_0 ((rd_T30 l0_0 x5_1).f0).length c311_0, .slice A311_1 ((rd_T30 l0_0 x5_1).f1).length c311_1, .int .i64 ((rd_T30 l0_0 x5_1).f2), .int .i64 ((rd_T30 l0_0 x5_1).f3), .slice A311_4 ((rd_T30 l0_0 x5_1).f4).length c311_4]] (by rfl) rfl rfl (by (try simp only [List.map_toArray, List.map_cons, List.map_nil]); first | done | rfl | (simp only [List.length_drop, List.length_take]; rfl)) ?_
           with_reducible refine (flow_Edges.calls k1 _ _ ((rd_T30 l0_0 x5_1).f0) _ _ ((rd_T30 l0_0 x5_1).f1) ((rd_T30 l0_0 x5_1).f2) ((rd_T30 l0_0 x5_1).f3) _ _ ((rd_T30 l0_0 x5_1).f4) t327 _ ?side1 ?side2 ?side3 ?side4 ?side5 ?side6 A25.out).mono ?_
           (case side1 => repeat (first | exact (Kd.C_below HR311_0.out (by repeat (first | (with_reducible first | exact HB.out | apply zq5 | apply zq4 | apply zq6 | refine below_set ?_ GE308.out | refine below_set ?_ GE312.out) | exact HB.out))) | (with_reducible refine Kd.C_alloc ?_ _) | (with_reducible refine Kd.C_drewN ?_ _) | (with_reducible refine Kd.C_drew ?_)))
           (case side2 => exact HC311_0.out)
           (case side3 => repeat (first | exact (Kd.C_below HR311_1.out (by repeat (first | (with_reducible first | exact HB.out | apply zq5 | apply zq4 | apply zq6 | refine below_set ?_ GE308.out | refine below_set ?_ GE312.out) | exact HB.out))) | (with_reducible refine Kd.C_alloc ?_ _) | (with_reducible refine Kd.C_drewN ?_ _) | (with_reducible refine Kd.C_drew ?_)))
           (case side4 => exact HC311_1.out)
           (case side5 => repeat (first | exact (Kd.C_below HR311_4.out (by repeat (first | (with_reducible first | exact HB.out | apply zq5 | apply zq4 | apply zq6 | refine below_set ?_ GE308.out | refine below_set ?_ GE312.out) | exact HB.out))) | (with_reducible refine Kd.C_alloc ?_ _) | (with_reducible refine Kd.C_drewN ?_ _) | (with_reducible refine Kd.C_drew ?_)))
           (case side6 => exact HC311_4.out)
           rintro e w46 ⟨v328, rfl, ho0, hb⟩
           refine ⟨_, rfl, ?_⟩
           have n0_ := Aside0.mk (Kd.R_below (by (with_reducible repeat (first | apply Kd.R_alloc | apply Kd.R_drewN | apply Kd.R_drew)); exact HO315.out) hb)
           have n1_ := Aside0.mk (Kd.R_below (by (with_reducible repeat (first | apply Kd.R_alloc | apply Kd.R_drewN | apply Kd.R_drew)); exact HO318.out) hb)
           have n2_ := Aside0.mk (Kd.R_below (by (with_reducible repeat (first | apply Kd.R_alloc | apply Kd.R_drewN | apply Kd.R_drew)); exact HO322.out) hb)
           have n3_ := Aside0.mk (Kd.R_below (by (with_reducible repeat (first | apply Kd.R_alloc | apply Kd.R_drewN | apply Kd.R_drew)); exact HO325.out) hb)
           have n4_ := Aside0.mk (Kd.R_lower ho0 (below_size (by repeat (first | (with_reducible first | exact HB.out | apply zq5 | apply zq4 | apply zq6 | refine below_set ?_ GE308.out | refine below_set ?_ GE312.out) | exact HB.out))))
           have n5_ := Aside0.mk (blk_below (g := gb308) (o := .cells #[.slice (some ad311) l0_0.length c0_0] 24 (0, 0)) (by (with_reducible repeat (first | refine zq1 ?_ _ | refine zq2 ?_ | refine zq3 ?_ _)); exact BK308.out) hb)
           have n6_ := Aside0.mk (blk_below (g := gb312) (o := .cells #[.slice A311_0 ((rd_T30 l0_0 x5_1).f0).length c311_0, .slice A311_1 ((rd_T30 l0_0 x5_1).f1).length c311_1, .int .i64 ((rd_T30 l0_0 x5_1).f2), .int .i64 ((rd_T30 l0_0 x5_1).f3), .slice A311_4 ((rd_T30 l0_0 x5_1).f4).length c311_4] 30 (0, 0)) (by (with_reducible repeat (first | refine zq1 ?_ _ | refine zq2 ?_ | refine zq3 ?_ _)); exact BK312.out) hb)
           have n7_ := Aside0.mk (below_step (by repeat (first | (with_reducible first | exact HB.out | apply zq5 | apply zq4 | apply zq6 | refine below_set ?_ GE308.out | refine below_set ?_ GE312.out) | exact HB.out)) hb)
           clear HO315
           clear HO318
           clear HO322
           clear HO325
           clear BK308
           clear BK312
           clear HB
           have HO315 := n0_
           have HO318 := n1_
           have HO322 := n2_
           have HO325 := n3_
           have HO329 := n4_
           have BK308 := n5_
           have BK312 := n6_
           have HB := n7_
           clear n0_ n1_ n2_ n3_ n4_ n5_ n6_ n7_
           (try clear hb)
           (try clear hb2)
           (try clear hk)
           (try clear hi)
           (try clear ho0)
           refine hK.out _ _ ⟨(blk_cell BK312.out 0).trans rfl, (blk_cell BK312.out 1).trans rfl, (blk_cell BK312.out 2).trans rfl, (blk_cell BK312.out 3).trans rfl, (blk_cell BK312.out 4).trans rfl⟩ (fun hHeld => ?_)
           clear hK K
           refine norm_ (a' := ?_) ?_ ?_
           rotate_left
           ·show Act.put _ (some 43) _ = _
            simp only [Act.put, List.setIfInBounds_toArray, List.set_cons_zero, List.set_cons_succ, i64_w, i32_w]
            rfl
           refine one_ (i := 22) (N := some 45) #[true, true, true, true, true, true, true, true, true, true, true, true, true, true, true, true, true, true, true, true, true, true, true, false, false, false, false, false, false, false, false, false, false] rfl rfl (one_of HT_.out (by kernel_rfl)) (by decide) (fun K hK => ?_)
           refine goes_ Try.func25 (by kernel_rfl) rfl #[.agg #[.slice A311_0 ((rd_T30 l0_0 x5_1).f0).length c311_0, .slice A311_1 ((rd_T30 l0_0 x5_1).f1).length c311_1, .int .i64 ((rd_T30 l0_0 x5_1).f2), .int .i64 ((rd_T30 l0_0 x5_1).f3), .slice A311_4 ((rd_T30 l0_0 x5_1).f4).length c311_4]] (by rfl) rfl rfl (by (try simp only [List.map_toArray, List.map_cons, List.map_nil]); first | done | rfl | (simp only [List.length_drop, List.length_take]; rfl)) ?_
           with_reducible refine (portolanref05_Edges.calls k1 _ _ ((rd_T30 l0_0 x5_1).f0) _ _ ((rd_T30 l0_0 x5_1).f1) ((rd_T30 l0_0 x5_1).f2) ((rd_T30 l0_0 x5_1).f3) _ _ ((rd_T30 l0_0 x5_1).f4) t330 _ ?side1 ?side2 ?side3 ?side4 ?side5 ?side6 A26.out).mono ?_
           (case side1 => repeat (first | exact (Kd.C_below HR311_0.out HB.out) | (with_reducible refine Kd.C_alloc ?_ _) | (with_reducible refine Kd.C_drewN ?_ _) | (with_reducible refine Kd.C_drew ?_)))
           (case side2 => exact HC311_0.out)
           (case side3 => repeat (first | exact (Kd.C_below HR311_1.out HB.out) | (with_reducible refine Kd.C_alloc ?_ _) | (with_reducible refine Kd.C_drewN ?_ _) | (with_reducible refine Kd.C_drew ?_)))
           (case side4 => exact HC311_1.out)
           (case side5 => repeat (first | exact (Kd.C_below HR311_4.out HB.out) | (with_reducible refine Kd.C_alloc ?_ _) | (with_reducible refine Kd.C_drewN ?_ _) | (with_reducible refine Kd.C_drew ?_)))
           (case side6 => exact HC311_4.out)
           rintro e w47 ⟨v331, rfl, ho0, hb⟩
           refine ⟨_, rfl, ?_⟩
           have n0_ := Aside0.mk (Kd.R_below (by (with_reducible repeat (first | apply Kd.R_alloc | apply Kd.R_drewN | apply Kd.R_drew)); exact HO315.out) hb)
           have n1_ := Aside0.mk (Kd.R_below (by (with_reducible repeat (first | apply Kd.R_alloc | apply Kd.R_drewN | apply Kd.R_drew)); exact HO318.out) hb)
           have n2_ := Aside0.mk (Kd.R_below (by (with_reducible repeat (first | apply Kd.R_alloc | apply Kd.R_drewN | apply Kd.R_drew)); exact HO322.out) hb)
           have n3_ := Aside0.mk (Kd.R_below (by (with_reducible repeat (first | apply Kd.R_alloc | apply Kd.R_drewN | apply Kd.R_drew)); exact HO325.out) hb)
           have n4_ := Aside0.mk (Kd.R_elder' (by (with_reducible repeat (first | apply Kd.R_alloc | apply Kd.R_drewN | apply Kd.R_drew)); exact HO329.out) (Kd.R_base ho0) hb)
           have n5_ := Aside0.mk (Kd.R_lower (Kd.R_new' ho0 (Kd.R_lt (by (with_reducible repeat (first | apply Kd.R_alloc | apply Kd.R_drewN | apply Kd.R_drew)); exact HO329.out))) (below_size (by repeat (first | (with_reducible first | exact HB.out | apply zq5 | apply zq4 | apply zq6 | refine below_set ?_ GE308.out | refine below_set ?_ GE312.out) | exact HB.out))))
           have n6_ := Aside0.mk (blk_below (g := gb308) (o := .cells #[.slice (some ad311) l0_0.length c0_0] 24 (0, 0)) (by (with_reducible repeat (first | refine zq1 ?_ _ | refine zq2 ?_ | refine zq3 ?_ _)); exact BK308.out) hb)
           have n7_ := Aside0.mk (blk_below (g := gb312) (o := .cells #[.slice A311_0 ((rd_T30 l0_0 x5_1).f0).length c311_0, .slice A311_1 ((rd_T30 l0_0 x5_1).f1).length c311_1, .int .i64 ((rd_T30 l0_0 x5_1).f2), .int .i64 ((rd_T30 l0_0 x5_1).f3), .slice A311_4 ((rd_T30 l0_0 x5_1).f4).length c311_4] 30 (0, 0)) (by (with_reducible repeat (first | refine zq1 ?_ _ | refine zq2 ?_ | refine zq3 ?_ _)); exact BK312.out) hb)
           have n8_ := Aside0.mk (below_step (by repeat (first | (with_reducible first | exact HB.out | apply zq5 | apply zq4 | apply zq6 | refine below_set ?_ GE308.out | refine below_set ?_ GE312.out) | exact HB.out)) hb)
           clear HO315
           clear HO318
           clear HO322
           clear HO325
           clear HO329
           clear BK308
           clear BK312
           clear HB
           have HO315 := n0_
           have HO318 := n1_
           have HO322 := n2_
           have HO325 := n3_
           have HO329 := n4_
           have HO332 := n5_
           have BK308 := n6_
           have BK312 := n7_
           have HB := n8_
           clear n0_ n1_ n2_ n3_ n4_ n5_ n6_ n7_ n8_
           (try clear hb)
           (try clear hb2)
           (try clear hk)
           (try clear hi)
           (try clear ho0)
           obtain ⟨Ao48, co48, eo48⟩ := Kd.R_slice HO329.out
           (first | subst eo48 | (injection eo48 with f1_ f2_ f3_; have f4_ := f1_.symm; have f5_ := f3_.symm; clear f1_ f2_ f3_; subst f4_; subst f5_))
           obtain ⟨Ao49, co49, eo49⟩ := Kd.R_slice HO332.out
           (first | subst eo49 | (injection eo49 with f1_ f2_ f3_; have f4_ := f1_.symm; have f5_ := f3_.symm; clear f1_ f2_ f3_; subst f4_; subst f5_))
           refine hK.out _ _ ⟨(blk_cell BK312.out 0).trans rfl, (blk_cell BK312.out 1).trans rfl, (blk_cell BK312.out 2).trans rfl, (blk_cell BK312.out 3).trans rfl, (blk_cell BK312.out 4).trans rfl⟩ (fun hHeld => ?_)
           clear hK K
           refine norm_ (a' := ?_) ?_ ?_
           rotate_left
           ·show Act.put _ (some 45) _ = _
            simp only [Act.put, List.setIfInBounds_toArray, List.set_cons_zero, List.set_cons_succ, i64_w, i32_w]
            rfl
           refine one_ (i := 23) (N := some 46) #[true, true, true, true, true, true, true, true, true, true, true, true, true, true, true, true, true, true, true, true, true, true, true, true, false, false, false, false, false, false, false, false, false] rfl rfl (one_of HT_.out (by kernel_rfl)) (by decide) (fun K hK => ?_)
           refine goes_ Try.func23 (by kernel_rfl) rfl #[.slice Ao48 t327.length co48, .slice Ao49 t330.length co49] (by rfl) rfl rfl (by (try simp only [List.map_toArray, List.map_cons, List.map_nil]); first | done | rfl | (simp only [List.length_drop, List.length_take]; rfl)) ?_
           with_reducible refine (portolanref05_SameEdges.calls k1 _ _ t327 _ _ t330 true _ ?side1 ?side2 ?side3 ?side4 A27.out).mono ?_
           (case side1 => repeat (first | exact (Kd.R_reads' HO329.out).2.2 | (with_reducible refine Kd.C_alloc ?_ _) | (with_reducible refine Kd.C_drewN ?_ _) | (with_reducible refine Kd.C_drew ?_)))
           (case side2 => exact (Kd.R_reads' HO329.out).2.1)
           (case side3 => repeat (first | exact (Kd.R_reads' HO332.out).2.2 | (with_reducible refine Kd.C_alloc ?_ _) | (with_reducible refine Kd.C_drewN ?_ _) | (with_reducible refine Kd.C_drew ?_)))
           (case side4 => exact (Kd.R_reads' HO332.out).2.1)
           rintro e w' ⟨rfl, ⟨nd, rfl⟩⟩
           refine ⟨_, rfl, ?_⟩
           refine hK.out _ _ ⟨(blk_cell BK312.out 0).trans rfl, (blk_cell BK312.out 1).trans rfl, (blk_cell BK312.out 2).trans rfl, (blk_cell BK312.out 3).trans rfl, (blk_cell BK312.out 4).trans rfl⟩ (fun hHeld => ?_)
           clear hK K
           refine norm_ (a' := ?_) ?_ ?_
           rotate_left
           ·show Act.put _ (some 46) _ = _
            simp only [Act.put, List.setIfInBounds_toArray, List.set_cons_zero, List.set_cons_succ, i64_w, i32_w]
            rfl
           refine pure_ (i := 24) (N := some 47) (v := ?_) (a' := ?_) #[true, true, true, true, true, true, true, true, true, true, true, true, true, true, true, true, true, true, true, true, true, true, true, true, true, false, false, false, false, false, false, false, false] rfl rfl (any_of HT_.out (by kernel_rfl)) (fun _ _ _ h => h) (Or.inl ⟨by rfl, ?_⟩) ?_ ?_
           rotate_left
           ·intro w'
            go_simp
            with_reducible rfl
           rotate_left
           ·simp only [Act.put, List.setIfInBounds_toArray, List.set_cons_zero, List.set_cons_succ, i64_w, i32_w]
            rfl
           refine pure_ (i := 25) (N := some 48) (v := ?_) (a' := ?_) #[true, true, true, true, true, true, true, true, true, true, true, true, true, true, true, true, true, true, true, true, true, true, true, true, true, true, false, false, false, false, false, false, false] rfl rfl (any_of HT_.out (by kernel_rfl)) (fun _ _ _ h => h) (Or.inl ⟨by rfl, ?_⟩) ?_ ?_
           rotate_left
           ·intro w'
            go_simp
            with_reducible rfl
           rotate_left
           ·simp only [Act.put, List.setIfInBounds_toArray, List.set_cons_zero, List.set_cons_succ, i64_w, i32_w]
            rfl
           refine pure_ (i := 26) (N := some 49) (v := ?_) (a' := ?_) #[true, true, true, true, true, true, true, true, true, true, true, true, true, true, true, true, true, true, true, true, true, true, true, true, true, true, true, false, false, false, false, false, false] rfl rfl (any_of HT_.out (by kernel_rfl)) (fun _ _ _ h => h) (Or.inl ⟨by rfl, ?_⟩) ?_ ?_
           rotate_left
           ·intro w'
            go_simp
            with_reducible rfl
           rotate_left
           ·simp only [Act.put, List.setIfInBounds_toArray, List.set_cons_zero, List.set_cons_succ, i64_w, i32_w]
            rfl
           refine take_ (i := 27) (N := some 50) (v := ?_) (a' := ?_) #[true, true, true, true, true, true, true, true, true, true, true, true, true, true, true, true, true, true, true, true, true, true, true, true, true, true, true, true, false, false, false, false, false] rfl rfl (take_ofW HT_.out HW_.out (by kernel_rfl)) (fun _ _ _ h => h) (Or.inl ⟨by rfl, ?_⟩) hHeld ?_ ?_
           rotate_left
           ·rintro w' ⟨s0, s1, s2, s3, s4⟩
            go_simp
            with_reducible rfl
           rotate_left
           ·simp only [Act.put, List.setIfInBounds_toArray, List.set_cons_zero, List.set_cons_succ, i64_w, i32_w]
            rfl
           refine take_ (i := 29) (N := some 52) (v := ?_) (a' := ?_) #[true, true, true, true, true, true, true, true, true, true, true, true, true, true, true, true, true, true, true, true, true, true, true, true, true, true, true, true, false, true, false, false, false] rfl rfl (take_ofW HT_.out HW_.out (by kernel_rfl)) (fun _ _ _ h => h) (Or.inl ⟨by rfl, ?_⟩) hHeld ?_ ?_
           rotate_left
           ·rintro w' ⟨s0, s1, s2, s3, s4⟩
            go_simp
            with_reducible rfl
           rotate_left
           ·simp only [Act.put, List.setIfInBounds_toArray, List.set_cons_zero, List.set_cons_succ, i64_w, i32_w]
            rfl
           refine one_ (i := 28) (N := some 51) #[true, true, true, true, true, true, true, true, true, true, true, true, true, true, true, true, true, true, true, true, true, true, true, true, true, true, true, true, true, true, false, false, false] rfl rfl (one_of HT_.out (by kernel_rfl)) (by decide) (fun K hK => ?_)
           refine goes_ Try.func26 (by kernel_rfl) rfl #[.agg #[.slice A311_0 ((rd_T30 l0_0 x5_1).f0).length c311_0, .slice A311_1 ((rd_T30 l0_0 x5_1).f1).length c311_1, .int .i64 ((rd_T30 l0_0 x5_1).f2), .int .i64 ((rd_T30 l0_0 x5_1).f3), .slice A311_4 ((rd_T30 l0_0 x5_1).f4).length c311_4]] (by rfl) rfl rfl (by (try simp only [List.map_toArray, List.map_cons, List.map_nil]); first | done | rfl | (simp only [List.length_drop, List.length_take]; rfl)) ?_
           with_reducible refine (flow_Size.calls k1 _ _ ((rd_T30 l0_0 x5_1).f0) _ _ ((rd_T30 l0_0 x5_1).f1) ((rd_T30 l0_0 x5_1).f2) ((rd_T30 l0_0 x5_1).f3) _ _ ((rd_T30 l0_0 x5_1).f4) t334 _ ?side1 ?side2 ?side3 ?side4 ?side5 ?side6 A29.out).mono ?_
           (case side1 => repeat (first | exact (Kd.C_below HR311_0.out (by repeat (first | (with_reducible first | exact HB.out | apply zq5 | apply zq4 | apply zq6 | refine below_set ?_ GE308.out | refine below_set ?_ GE312.out) | exact HB.out))) | (with_reducible refine Kd.C_alloc ?_ _) | (with_reducible refine Kd.C_drewN ?_ _) | (with_reducible refine Kd.C_drew ?_)))
           (case side2 => exact HC311_0.out)
           (case side3 => repeat (first | exact (Kd.C_below HR311_1.out (by repeat (first | (with_reducible first | exact HB.out | apply zq5 | apply zq4 | apply zq6 | refine below_set ?_ GE308.out | refine below_set ?_ GE312.out) | exact HB.out))) | (with_reducible refine Kd.C_alloc ?_ _) | (with_reducible refine Kd.C_drewN ?_ _) | (with_reducible refine Kd.C_drew ?_)))
           (case side4 => exact HC311_1.out)
           (case side5 => repeat (first | exact (Kd.C_below HR311_4.out (by repeat (first | (with_reducible first | exact HB.out | apply zq5 | apply zq4 | apply zq6 | refine below_set ?_ GE308.out | refine below_set ?_ GE312.out) | exact HB.out))) | (with_reducible refine Kd.C_alloc ?_ _) | (with_reducible refine Kd.C_drewN ?_ _) | (with_reducible refine Kd.C_drew ?_)))
           (case side6 => exact HC311_4.out)
           rintro e w50 ⟨rfl, hb⟩
           refine ⟨_, rfl, ?_⟩
           have n0_ := Aside0.mk (Kd.R_below (by (with_reducible repeat (first | apply Kd.R_alloc | apply Kd.R_drewN | apply Kd.R_drew)); exact HO315.out) hb)
           have n1_ := Aside0.mk (Kd.R_below (by (with_reducible repeat (first | apply Kd.R_alloc | apply Kd.R_drewN | apply Kd.R_drew)); exact HO318.out) hb)
           have n2_ := Aside0.mk (Kd.R_below (by (with_reducible repeat (first | apply Kd.R_alloc | apply Kd.R_drewN | apply Kd.R_drew)); exact HO322.out) hb)
           have n3_ := Aside0.mk (Kd.R_below (by (with_reducible repeat (first | apply Kd.R_alloc | apply Kd.R_drewN | apply Kd.R_drew)); exact HO325.out) hb)
           have n4_ := Aside0.mk (Kd.R_below (by (with_reducible repeat (first | apply Kd.R_alloc | apply Kd.R_drewN | apply Kd.R_drew)); exact HO329.out) hb)
           have n5_ := Aside0.mk (Kd.R_below (by (with_reducible repeat (first | apply Kd.R_alloc | apply Kd.R_drewN | apply Kd.R_drew)); exact HO332.out) hb)
           have n6_ := Aside0.mk (blk_below (g := gb308) (o := .cells #[.slice (some ad311) l0_0.length c0_0] 24 (0, 0)) (by (with_reducible repeat (first | refine zq1 ?_ _ | refine zq2 ?_ | refine zq3 ?_ _)); exact BK308.out) hb)
           have n7_ := Aside0.mk (blk_below (g := gb312) (o := .cells #[.slice A311_0 ((rd_T30 l0_0 x5_1).f0).length c311_0, .slice A311_1 ((rd_T30 l0_0 x5_1).f1).length c311_1, .int .i64 ((rd_T30 l0_0 x5_1).f2), .int .i64 ((rd_T30 l0_0 x5_1).f3), .slice A311_4 ((rd_T30 l0_0 x5_1).f4).length c311_4] 30 (0, 0)) (by (with_reducible repeat (first | refine zq1 ?_ _ | refine zq2 ?_ | refine zq3 ?_ _)); exact BK312.out) hb)
           have n8_ := Aside0.mk (below_step (by repeat (first | (with_reducible first | exact HB.out | apply zq5 | apply zq4 | apply zq6 | refine below_set ?_ GE308.out | refine below_set ?_ GE312.out) | exact HB.out)) hb)
           clear HO315
           clear HO318
           clear HO322
           clear HO325
           clear HO329
           clear HO332
           clear BK308
           clear BK312
           clear HB
           have HO315 := n0_
           have HO318 := n1_
           have HO322 := n2_
           have HO325 := n3_
           have HO329 := n4_
           have HO332 := n5_
           have BK308 := n6_
           have BK312 := n7_
           have HB := n8_
           clear n0_ n1_ n2_ n3_ n4_ n5_ n6_ n7_ n8_
           (try clear hb)
           (try clear hb2)
           (try clear hk)
           (try clear hi)
           refine hK.out _ _ ⟨(blk_cell BK312.out 0).trans rfl, (blk_cell BK312.out 1).trans rfl, (blk_cell BK312.out 2).trans rfl, (blk_cell BK312.out 3).trans rfl, (blk_cell BK312.out 4).trans rfl⟩ (fun hHeld => ?_)
           clear hK K
           refine norm_ (a' := ?_) ?_ ?_
           rotate_left
           ·show Act.put _ (some 51) _ = _
            simp only [Act.put, List.setIfInBounds_toArray, List.set_cons_zero, List.set_cons_succ, i64_w, i32_w]
            rfl
           refine one_ (i := 30) (N := some 53) #[true, true, true, true, true, true, true, true, true, true, true, true, true, true, true, true, true, true, true, true, true, true, true, true, true, true, true, true, true, true, true, false, false] rfl rfl (one_of HT_.out (by kernel_rfl)) (by decide) (fun K hK => ?_)
           refine goes_ Try.func27 (by kernel_rfl) rfl #[.agg #[.slice A311_0 ((rd_T30 l0_0 x5_1).f0).length c311_0, .slice A311_1 ((rd_T30 l0_0 x5_1).f1).length c311_1, .int .i64 ((rd_T30 l0_0 x5_1).f2), .int .i64 ((rd_T30 l0_0 x5_1).f3), .slice A311_4 ((rd_T30 l0_0 x5_1).f4).length c311_4]] (by rfl) rfl rfl (by (try simp only [List.map_toArray, List.map_cons, List.map_nil]); first | done | rfl | (simp only [List.length_drop, List.length_take]; rfl)) ?_
           with_reducible refine (portolanref05_Size.calls k1 _ _ ((rd_T30 l0_0 x5_1).f0) _ _ ((rd_T30 l0_0 x5_1).f1) ((rd_T30 l0_0 x5_1).f2) ((rd_T30 l0_0 x5_1).f3) _ _ ((rd_T30 l0_0 x5_1).f4) t335 _ ?side1 ?side2 ?side3 ?side4 ?side5 ?side6 A30.out).mono ?_
           (case side1 => repeat (first | exact (Kd.C_below HR311_0.out HB.out) | (with_reducible refine Kd.C_alloc ?_ _) | (with_reducible refine Kd.C_drewN ?_ _) | (with_reducible refine Kd.C_drew ?_)))
           (case side2 => exact HC311_0.out)
           (case side3 => repeat (first | exact (Kd.C_below HR311_1.out HB.out) | (with_reducible refine Kd.C_alloc ?_ _) | (with_reducible refine Kd.C_drewN ?_ _) | (with_reducible refine Kd.C_drew ?_)))
           (case side4 => exact HC311_1.out)
           (case side5 => repeat (first | exact (Kd.C_below HR311_4.out HB.out) | (with_reducible refine Kd.C_alloc ?_ _) | (with_reducible refine Kd.C_drewN ?_ _) | (with_reducible refine Kd.C_drew ?_)))
           (case side6 => exact HC311_4.out)
           rintro e w51 ⟨rfl, hb⟩
           refine ⟨_, rfl, ?_⟩
           have n0_ := Aside0.mk (Kd.R_below (by (with_reducible repeat (first | apply Kd.R_alloc | apply Kd.R_drewN | apply Kd.R_drew)); exact HO315.out) hb)
           have n1_ := Aside0.mk (Kd.R_below (by (with_reducible repeat (first | apply Kd.R_alloc | apply Kd.R_drewN | apply Kd.R_drew)); exact HO318.out) hb)
           have n2_ := Aside0.mk (Kd.R_below (by (with_reducible repeat (first | apply Kd.R_alloc | apply Kd.R_drewN | apply Kd.R_drew)); exact HO322.out) hb)
           have n3_ := Aside0.mk (Kd.R_below (by (with_reducible repeat (first | apply Kd.R_alloc | apply Kd.R_drewN | apply Kd.R_drew)); exact HO325.out) hb)
           have n4_ := Aside0.mk (Kd.R_below (by (with_reducible repeat (first | apply Kd.R_alloc | apply Kd.R_drewN | apply Kd.R_drew)); exact HO329.out) hb)
           have n5_ := Aside0.mk (Kd.R_below (by (with_reducible repeat (first | apply Kd.R_alloc | apply Kd.R_drewN | apply Kd.R_drew)); exact HO332.out) hb)
           have n6_ := Aside0.mk (blk_below (g := gb308) (o := .cells #[.slice (some ad311) l0_0.length c0_0] 24 (0, 0)) (by (with_reducible repeat (first | refine zq1 ?_ _ | refine zq2 ?_ | refine zq3 ?_ _)); exact BK308.out) hb)
           have n7_ := Aside0.mk (blk_below (g := gb312) (o := .cells #[.slice A311_0 ((rd_T30 l0_0 x5_1).f0).length c311_0, .slice A311_1 ((rd_T30 l0_0 x5_1).f1).length c311_1, .int .i64 ((rd_T30 l0_0 x5_1).f2), .int .i64 ((rd_T30 l0_0 x5_1).f3), .slice A311_4 ((rd_T30 l0_0 x5_1).f4).length c311_4] 30 (0, 0)) (by (with_reducible repeat (first | refine zq1 ?_ _ | refine zq2 ?_ | refine zq3 ?_ _)); exact BK312.out) hb)
           have n8_ := Aside0.mk (below_step (by repeat (first | (with_reducible first | exact HB.out | apply zq5 | apply zq4 | apply zq6 | refine below_set ?_ GE308.out | refine below_set ?_ GE312.out) | exact HB.out)) hb)
           clear HO315
           clear HO318
           clear HO322
           clear HO325
           clear HO329
           clear HO332
           clear BK308
           clear BK312
           clear HB
           have HO315 := n0_
           have HO318 := n1_
           have HO322 := n2_
           have HO325 := n3_
           have HO329 := n4_
           have HO332 := n5_
           have BK308 := n6_
           have BK312 := n7_
           have HB := n8_
           clear n0_ n1_ n2_ n3_ n4_ n5_ n6_ n7_ n8_
           (try clear hb)
           (try clear hb2)
           (try clear hk)
           (try clear hi)
           refine hK.out _ _ ⟨(blk_cell BK312.out 0).trans rfl, (blk_cell BK312.out 1).trans rfl, (blk_cell BK312.out 2).trans rfl, (blk_cell BK312.out 3).trans rfl, (blk_cell BK312.out 4).trans rfl⟩ (fun hHeld => ?_)
           clear hK K
           refine norm_ (a' := ?_) ?_ ?_
           rotate_left
           ·show Act.put _ (some 53) _ = _
            simp only [Act.put, List.setIfInBounds_toArray, List.set_cons_zero, List.set_cons_succ, i64_w, i32_w]
            rfl
           refine pure_ (i := 31) (N := some 54) (v := ?_) (a' := ?_) #[true, true, true, true, true, true, true, true, true, true, true, true, true, true, true, true, true, true, true, true, true, true, true, true, true, true, true, true, true, true, true, true, false] rfl rfl (any_of HT_.out (by kernel_rfl)) (fun _ _ _ h => h) (Or.inl ⟨by rfl, ?_⟩) ?_ ?_
           rotate_left
           ·intro w'
            go_simp
            with_reducible rfl
           rotate_left
           ·simp only [Act.put, List.setIfInBounds_toArray, List.set_cons_zero, List.set_cons_succ, i64_w, i32_w]
            rfl
           refine pure_ (i := 32) (N := some 55) (v := ?_) (a' := ?_) #[true, true, true, true, true, true, true, true, true, true, true, true, true, true, true, true, true, true, true, true, true, true, true, true, true, true, true, true, true, true, true, true, true] rfl rfl (any_of HT_.out (by kernel_rfl)) (fun _ _ _ h => h) (Or.inl ⟨by rfl, ?_⟩) ?_ ?_
           rotate_left
           ·intro w'
            go_simp
            with_reducible rfl
           rotate_left
           ·simp only [Act.put, List.setIfInBounds_toArray, List.set_cons_zero, List.set_cons_succ, i64_w, i32_w]
            rfl
           refine done_ (done_of HT_.out (by kernel_rfl)) ?_
           try go_wp2
           go_roundg k1
           case measure => have := HK1.out; omega
           case rel => exact ⟨(wrap64 (x5_1 + 1)), (by first | rfl | (simp; done) | (simp [*]; done)), H', ⟨by have := HK1.out; omega⟩, ⟨by (with_reducible repeat (first | refine zq1 ?_ _ | refine zq2 ?_ | refine zq3 ?_ _)); exact BK308.out⟩, ⟨by repeat (first | (with_reducible first | exact HB.out | apply zq5 | apply zq4 | apply zq6 | refine below_set ?_ GE308.out | refine below_set ?_ GE312.out) | exact HB.out)⟩⟩
          ·rw [if_neg c31] at H
           have c31b0 : (t334 == t335) = false := beq_eq_false_iff_ne.mpr c31
           have c31b1 : (t334 != t335) = true := bne_iff_ne.mpr c31
           exact absurd (Option.some.inj H) (by decide)
         ·replace c28 := Bool.eq_false_iff.mpr c28
          subst c28
          have H1 : (some false) = some true := by first | (rw [if_neg (show ¬ (false = true) by decide)] at H; exact H) | rfl
          clear H
          have H := H1
          clear H1
          exact absurd (Option.some.inj H) (by decide)
        ·replace c24 := Bool.eq_false_iff.mpr c24
         subst c24
         have H1 : (some false) = some true := by first | (rw [if_neg (show ¬ (false = true) by decide)] at H; exact H) | rfl
         clear H
         have H := H1
         clear H1
         exact absurd (Option.some.inj H) (by decide)
       ·replace c20 := Bool.eq_false_iff.mpr c20
        subst c20
        have H1 : (some false) = some true := by first | (rw [if_neg (show ¬ (false = true) by decide)] at H; exact H) | rfl
        clear H
        have H := H1
        clear H1
        exact absurd (Option.some.inj H) (by decide)
      ·rw [if_neg c16] at H
       exact absurd H (by simp)
     ·rw [if_neg c15] at H
      have c15b0 : decide (x5_1 < (l0_0.length : Int)) = false := decide_eq_false c15
      clear c15
      clear H
      have hcz52_0 : wr.cell? ⟨gb308, 0, none⟩ = some (.slice A0_0 l0_0.length c0_0) := (blk_cell BK308.out 0).trans rfl
      have hfz52_0 := blk_frozen BK308.out 0
      go_wp2
      go_ret
      exact ⟨by first | rfl | (simp [errW_none, errW_some] <;> rfl) | (simp [*, errW_none, errW_some] <;> rfl), by repeat (first | (with_reducible first | exact HB.out | apply zq5 | apply zq4 | apply zq6 | refine below_set ?_ GE308.out) | exact HB.out)⟩
 ·replace c4 := Bool.eq_false_iff.mpr c4
  subst c4
  have H1 : (some false) = some true := by first | (rw [if_neg (show ¬ (false = true) by decide)] at H; exact H) | rfl
  clear H
  have H := H1
  clear H1
  exact absurd (Option.some.inj H) (by decide)

end Go.Proofs.Ytcknmcfomkbenaa.PF
