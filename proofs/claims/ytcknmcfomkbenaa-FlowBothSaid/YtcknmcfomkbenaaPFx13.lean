-- written by xp.py (ours) over the translation
import Derived.Test.YtcknmcfomkbenaaPFx0
import Derived.Test.YtcknmcfomkbenaaPFx1
import Derived.Test.YtcknmcfomkbenaaPFx2
import Derived.Test.YtcknmcfomkbenaaPFx3
import Derived.Test.YtcknmcfomkbenaaPFx10
namespace Go.Proofs.Ytcknmcfomkbenaa.PF
open Go.RowKit Go.Proofs.YtcknmcfomkbenaaW.PrintWords Go.Proofs.YtcknmcfomkbenaaW.PrintLast Go.Proofs.YtcknmcfomkbenaaW.PrintMore
attribute [local go_sem] max2_int min2_int max_two min_two max_three min_three max_four min_four   -- for this text's walks alone
set_option linter.unusedVariables false
set_option linter.unusedSimpArgs false

attribute [local go_sem high] eqA40
/-! ### portolanlaw05_FlowBoth: function 4 -/
mutual
def portolanlaw05_FlowBoth.l0 : Nat → Int → List (S30) → Int → Int → Option (Bool)
 | 0, _, _, _, _ => none
 | k + 1, x5, x337000, x338000, x338001 => if x5 < (x337000.length : Int) then (if 0 ≤ x5 then (if (((rd_T30 x337000 x5).f4).length : Int) = 0 then (none) else ((flow_Next.f k ((rd_T30 x337000 x5).f0) ((rd_T30 x337000 x5).f1) ((rd_T30 x337000 x5).f2) ((rd_T30 x337000 x5).f3) ((rd_T30 x337000 x5).f4) (Int.tmod (wrap64 (x338000)) (((rd_T30 x337000 x5).f4).length : Int))).bind fun t342 => ((flow_Prev.f k ((rd_T30 x337000 x5).f0) ((rd_T30 x337000 x5).f1) ((rd_T30 x337000 x5).f2) ((rd_T30 x337000 x5).f3) ((rd_T30 x337000 x5).f4) (Int.tmod (wrap64 (x338001)) (((rd_T30 x337000 x5).f4).length : Int))).bind fun t345 => ((flow_Edges.f k ((rd_T30 x337000 x5).f0) ((rd_T30 x337000 x5).f1) ((rd_T30 x337000 x5).f2) ((rd_T30 x337000 x5).f3) ((rd_T30 x337000 x5).f4)).bind fun t348 => (portolanlaw05_FlowBoth.l1 k x5 (Int.tmod (wrap64 (x338000)) (((rd_T30 x337000 x5).f4).length : Int)) (Int.tmod (wrap64 (x338001)) (((rd_T30 x337000 x5).f4).length : Int)) t342 t345 t348 false false false 0 x337000 x338000 x338001))))) else (none)) else (some true)
def portolanlaw05_FlowBoth.l1 : Nat → Int → Int → Int → List Int → List Int → List (S40) → Bool → Bool → Bool → Int → List (S30) → Int → Int → Option (Bool)
 | 0, _, _, _, _, _, _, _, _, _, _, _, _, _ => none
 | k + 1, x5, x7, x8, x9, x10, x11, x12, x13, x14, x15, x337000, x338000, x338001 => if x15 < (x9.length : Int) then (if x12 = true then (portolanlaw05_FlowBoth.l1 k x5 x7 x8 x9 x10 x11 true x13 x14 (wrap64 (x15 + 1)) x337000 x338000 x338001) else (if 0 ≤ x15 then (portolanlaw05_FlowBoth.l1 k x5 x7 x8 x9 x10 x11 ((rd x9 x15) == x8) x13 x14 (wrap64 (x15 + 1)) x337000 x338000 x338001) else (none))) else (portolanlaw05_FlowBoth.l2 k x5 x7 x8 x10 x11 x12 x13 x14 0 x337000 x338000 x338001)
def portolanlaw05_FlowBoth.l2 : Nat → Int → Int → Int → List Int → List (S40) → Bool → Bool → Bool → Int → List (S30) → Int → Int → Option (Bool)
 | 0, _, _, _, _, _, _, _, _, _, _, _, _ => none
 | k + 1, x5, x7, x8, x10, x11, x12, x13, x14, x16, x337000, x338000, x338001 => if x16 < (x10.length : Int) then (if x13 = true then (portolanlaw05_FlowBoth.l2 k x5 x7 x8 x10 x11 x12 true x14 (wrap64 (x16 + 1)) x337000 x338000 x338001) else (if 0 ≤ x16 then (portolanlaw05_FlowBoth.l2 k x5 x7 x8 x10 x11 x12 ((rd x10 x16) == x7) x14 (wrap64 (x16 + 1)) x337000 x338000 x338001) else (none))) else (portolanlaw05_FlowBoth.l3 k x5 x7 x8 x11 x12 x13 x14 0 x337000 x338000 x338001)
def portolanlaw05_FlowBoth.l3 : Nat → Int → Int → Int → List (S40) → Bool → Bool → Bool → Int → List (S30) → Int → Int → Option (Bool)
 | 0, _, _, _, _, _, _, _, _, _, _, _ => none
 | k + 1, x5, x7, x8, x11, x12, x13, x14, x17, x337000, x338000, x338001 => if x17 < (x11.length : Int) then (if x14 = true then (portolanlaw05_FlowBoth.l3 k x5 x7 x8 x11 x12 x13 true (wrap64 (x17 + 1)) x337000 x338000 x338001) else (if 0 ≤ x17 then (portolanlaw05_FlowBoth.l3 k x5 x7 x8 x11 x12 x13 (((rd_T40 x11 x17).f0) == x7 && (((rd_T40 x11 x17).f1) == x8)) (wrap64 (x17 + 1)) x337000 x338000 x338001) else (none))) else (if (x12 != x13) = true then (some false) else (if (x13 != x14) = true then (some false) else (portolanlaw05_FlowBoth.l0 k (wrap64 (x5 + 1)) x337000 x338000 x338001)))
end
def portolanlaw05_FlowBoth.f (k : Nat) (l0_0 : List (S30)) (a1_0 : Int) (a1_1 : Int) : Option (Bool) := (portolanlaw05_alive.f k).bind fun t338 => (if t338 = true then ((portolanlaw05_out.f k l0_0).bind fun t339 => (if t339 = true then (some true) else (portolanlaw05_FlowBoth.l0 k 0 l0_0 a1_0 a1_1))) else (some false))
theorem portolanlaw05_FlowBoth.mono_l : ∀ k, (∀ y0 y1 y2 y3, LeO (portolanlaw05_FlowBoth.l0 k y0 y1 y2 y3) (portolanlaw05_FlowBoth.l0 (k + 1) y0 y1 y2 y3)) ∧ (∀ y0 y1 y2 y3 y4 y5 y6 y7 y8 y9 y10 y11 y12, LeO (portolanlaw05_FlowBoth.l1 k y0 y1 y2 y3 y4 y5 y6 y7 y8 y9 y10 y11 y12) (portolanlaw05_FlowBoth.l1 (k + 1) y0 y1 y2 y3 y4 y5 y6 y7 y8 y9 y10 y11 y12)) ∧ (∀ y0 y1 y2 y3 y4 y5 y6 y7 y8 y9 y10 y11, LeO (portolanlaw05_FlowBoth.l2 k y0 y1 y2 y3 y4 y5 y6 y7 y8 y9 y10 y11) (portolanlaw05_FlowBoth.l2 (k + 1) y0 y1 y2 y3 y4 y5 y6 y7 y8 y9 y10 y11)) ∧ (∀ y0 y1 y2 y3 y4 y5 y6 y7 y8 y9 y10, LeO (portolanlaw05_FlowBoth.l3 k y0 y1 y2 y3 y4 y5 y6 y7 y8 y9 y10) (portolanlaw05_FlowBoth.l3 (k + 1) y0 y1 y2 y3 y4 y5 y6 y7 y8 y9 y10))
 | 0 => ⟨fun _ _ _ _ r h => by simp [portolanlaw05_FlowBoth.l0] at h, fun _ _ _ _ _ _ _ _ _ _ _ _ _ r h => by simp [portolanlaw05_FlowBoth.l1] at h, fun _ _ _ _ _ _ _ _ _ _ _ _ r h => by simp [portolanlaw05_FlowBoth.l2] at h, fun _ _ _ _ _ _ _ _ _ _ _ r h => by simp [portolanlaw05_FlowBoth.l3] at h⟩
 | k + 1 => by
  obtain ⟨ih0, ih1, ih2, ih3⟩ := portolanlaw05_FlowBoth.mono_l k
  refine ⟨?_, ?_, ?_, ?_⟩
  ·intro y0 y1 y2 y3
   unfold portolanlaw05_FlowBoth.l0
   repeat' first
   | (with_reducible exact ih0 _ _ _ _)
   | (with_reducible exact ih1 _ _ _ _ _ _ _ _ _ _ _ _ _)
   | (with_reducible exact ih2 _ _ _ _ _ _ _ _ _ _ _ _)
   | (with_reducible exact ih3 _ _ _ _ _ _ _ _ _ _ _)
   | (with_reducible exact flow_Edges.mono _ _ _ _ _ _)
   | (with_reducible exact flow_Next.mono _ _ _ _ _ _ _)
   | (with_reducible exact flow_Prev.mono _ _ _ _ _ _ _)
   | (with_reducible exact portolanlaw05_alive.mono _)
   | (with_reducible exact portolanlaw05_out.mono _ _)
   | (with_reducible exact LeO.refl _)
   | (with_reducible exact LeO.none _)
   | (with_reducible refine LeO.ite ?_ ?_)
   | (with_reducible refine LeO.bind ?_ (fun _ => ?_))
   | exact ih0 _ _ _ _
   | exact ih1 _ _ _ _ _ _ _ _ _ _ _ _ _
   | exact ih2 _ _ _ _ _ _ _ _ _ _ _ _
   | exact ih3 _ _ _ _ _ _ _ _ _ _ _
   | exact flow_Edges.mono _ _ _ _ _ _
   | exact flow_Next.mono _ _ _ _ _ _ _
   | exact flow_Prev.mono _ _ _ _ _ _ _
   | exact portolanlaw05_alive.mono _
   | exact portolanlaw05_out.mono _ _
   | exact LeO.none _
   | refine LeO.ite ?_ ?_
   | refine LeO.bind ?_ (fun _ => ?_)
  ·intro y0 y1 y2 y3 y4 y5 y6 y7 y8 y9 y10 y11 y12
   unfold portolanlaw05_FlowBoth.l1
   repeat' first
   | (with_reducible exact ih0 _ _ _ _)
   | (with_reducible exact ih1 _ _ _ _ _ _ _ _ _ _ _ _ _)
   | (with_reducible exact ih2 _ _ _ _ _ _ _ _ _ _ _ _)
   | (with_reducible exact ih3 _ _ _ _ _ _ _ _ _ _ _)
   | (with_reducible exact flow_Edges.mono _ _ _ _ _ _)
   | (with_reducible exact flow_Next.mono _ _ _ _ _ _ _)
   | (with_reducible exact flow_Prev.mono _ _ _ _ _ _ _)
   | (with_reducible exact portolanlaw05_alive.mono _)
   | (with_reducible exact portolanlaw05_out.mono _ _)
   | (with_reducible exact LeO.refl _)
   | (with_reducible exact LeO.none _)
   | (with_reducible refine LeO.ite ?_ ?_)
   | (with_reducible refine LeO.bind ?_ (fun _ => ?_))
   | exact ih0 _ _ _ _
   | exact ih1 _ _ _ _ _ _ _ _ _ _ _ _ _
   | exact ih2 _ _ _ _ _ _ _ _ _ _ _ _
   | exact ih3 _ _ _ _ _ _ _ _ _ _ _
   | exact flow_Edges.mono _ _ _ _ _ _
   | exact flow_Next.mono _ _ _ _ _ _ _
   | exact flow_Prev.mono _ _ _ _ _ _ _
   | exact portolanlaw05_alive.mono _
   | exact portolanlaw05_out.mono _ _
   | exact LeO.none _
   | refine LeO.ite ?_ ?_
   | refine LeO.bind ?_ (fun _ => ?_)
  ·intro y0 y1 y2 y3 y4 y5 y6 y7 y8 y9 y10 y11
   unfold portolanlaw05_FlowBoth.l2
   repeat' first
   | (with_reducible exact ih0 _ _ _ _)
   | (with_reducible exact ih1 _ _ _ _ _ _ _ _ _ _ _ _ _)
   | (with_reducible exact ih2 _ _ _ _ _ _ _ _ _ _ _ _)
   | (with_reducible exact ih3 _ _ _ _ _ _ _ _ _ _ _)
   | (with_reducible exact flow_Edges.mono _ _ _ _ _ _)
   | (with_reducible exact flow_Next.mono _ _ _ _ _ _ _)
   | (with_reducible exact flow_Prev.mono _ _ _ _ _ _ _)
   | (with_reducible exact portolanlaw05_alive.mono _)
   | (with_reducible exact portolanlaw05_out.mono _ _)
   | (with_reducible exact LeO.refl _)
   | (with_reducible exact LeO.none _)
   | (with_reducible refine LeO.ite ?_ ?_)
   | (with_reducible refine LeO.bind ?_ (fun _ => ?_))
   | exact ih0 _ _ _ _
   | exact ih1 _ _ _ _ _ _ _ _ _ _ _ _ _
   | exact ih2 _ _ _ _ _ _ _ _ _ _ _ _
   | exact ih3 _ _ _ _ _ _ _ _ _ _ _
   | exact flow_Edges.mono _ _ _ _ _ _
   | exact flow_Next.mono _ _ _ _ _ _ _
   | exact flow_Prev.mono _ _ _ _ _ _ _
   | exact portolanlaw05_alive.mono _
   | exact portolanlaw05_out.mono _ _
   | exact LeO.none _
   | refine LeO.ite ?_ ?_
   | refine LeO.bind ?_ (fun _ => ?_)
  ·intro y0 y1 y2 y3 y4 y5 y6 y7 y8 y9 y10
   unfold portolanlaw05_FlowBoth.l3
   repeat' first
   | (with_reducible exact ih0 _ _ _ _)
   | (with_reducible exact ih1 _ _ _ _ _ _ _ _ _ _ _ _ _)
   | (with_reducible exact ih2 _ _ _ _ _ _ _ _ _ _ _ _)
   | (with_reducible exact ih3 _ _ _ _ _ _ _ _ _ _ _)
   | (with_reducible exact flow_Edges.mono _ _ _ _ _ _)
   | (with_reducible exact flow_Next.mono _ _ _ _ _ _ _)
   | (with_reducible exact flow_Prev.mono _ _ _ _ _ _ _)
   | (with_reducible exact portolanlaw05_alive.mono _)
   | (with_reducible exact portolanlaw05_out.mono _ _)
   | (with_reducible exact LeO.refl _)
   | (with_reducible exact LeO.none _)
   | (with_reducible refine LeO.ite ?_ ?_)
   | (with_reducible refine LeO.bind ?_ (fun _ => ?_))
   | exact ih0 _ _ _ _
   | exact ih1 _ _ _ _ _ _ _ _ _ _ _ _ _
   | exact ih2 _ _ _ _ _ _ _ _ _ _ _ _
   | exact ih3 _ _ _ _ _ _ _ _ _ _ _
   | exact flow_Edges.mono _ _ _ _ _ _
   | exact flow_Next.mono _ _ _ _ _ _ _
   | exact flow_Prev.mono _ _ _ _ _ _ _
   | exact portolanlaw05_alive.mono _
   | exact portolanlaw05_out.mono _ _
   | exact LeO.none _
   | refine LeO.ite ?_ ?_
   | refine LeO.bind ?_ (fun _ => ?_)
theorem portolanlaw05_FlowBoth.mono : ∀ a0 a1 a2 k, LeO (portolanlaw05_FlowBoth.f k a0 a1 a2) (portolanlaw05_FlowBoth.f (k + 1) a0 a1 a2) := by
 intro a0 a1 a2 k
 obtain ⟨ih0, ih1, ih2, ih3⟩ := portolanlaw05_FlowBoth.mono_l k
 unfold portolanlaw05_FlowBoth.f
 repeat' first
   | (with_reducible exact ih0 _ _ _ _)
   | (with_reducible exact ih1 _ _ _ _ _ _ _ _ _ _ _ _ _)
   | (with_reducible exact ih2 _ _ _ _ _ _ _ _ _ _ _ _)
   | (with_reducible exact ih3 _ _ _ _ _ _ _ _ _ _ _)
   | (with_reducible exact flow_Edges.mono _ _ _ _ _ _)
   | (with_reducible exact flow_Next.mono _ _ _ _ _ _ _)
   | (with_reducible exact flow_Prev.mono _ _ _ _ _ _ _)
   | (with_reducible exact portolanlaw05_alive.mono _)
   | (with_reducible exact portolanlaw05_out.mono _ _)
   | (with_reducible exact LeO.refl _)
   | (with_reducible exact LeO.none _)
   | (with_reducible refine LeO.ite ?_ ?_)
   | (with_reducible refine LeO.bind ?_ (fun _ => ?_))
   | exact ih0 _ _ _ _
   | exact ih1 _ _ _ _ _ _ _ _ _ _ _ _ _
   | exact ih2 _ _ _ _ _ _ _ _ _ _ _ _
   | exact ih3 _ _ _ _ _ _ _ _ _ _ _
   | exact flow_Edges.mono _ _ _ _ _ _
   | exact flow_Next.mono _ _ _ _ _ _ _
   | exact flow_Prev.mono _ _ _ _ _ _ _
   | exact portolanlaw05_alive.mono _
   | exact portolanlaw05_out.mono _ _
   | exact LeO.none _
   | refine LeO.ite ?_ ?_
   | refine LeO.bind ?_ (fun _ => ?_)
def portolanlaw05_FlowBoth.T9 : Bool × List (List Nat × List Nat) := (true, [([], []), ([0], [0]), ([1], [1]), ([], []), ([3], [3]), ([4], [4]), ([2, 5], [2, 5]), ([], []), ([7], [7]), ([8], [8]), ([], []), ([10], [10]), ([11], [11]), ([9, 12], [9, 12]), ([6, 0, 1, 2, 3, 4, 5, 6], [6]), ([13, 14, 0, 1, 2, 3, 4, 5, 6, 7, 8, 9, 10, 11, 12, 13, 14], [13])])
def portolanlaw05_FlowBoth.B9 : List Nat := [0, 1, 3, 0, 8, 24, 63, 0, 128, 384, 0, 1024, 3072, 8064, 127, 32767]
theorem portolanlaw05_FlowBoth.tab9 : rtab .any (opsOf Try.f4 9) = portolanlaw05_FlowBoth.T9 := by kernel_rfl
theorem portolanlaw05_FlowBoth.bits9 : waitsOk portolanlaw05_FlowBoth.T9.2 portolanlaw05_FlowBoth.B9 = true := by kernel_rfl
def portolanlaw05_FlowBoth.T10 : Bool × List (List Nat × List Nat) := (true, [([], []), ([], []), ([0, 1], [0, 1]), ([], []), ([], []), ([3, 4, 2], [3, 4]), ([], []), ([6, 5], [6]), ([2, 7, 0, 1, 2], [2]), ([5, 8, 0, 1, 2, 3, 4, 5, 8], [5]), ([7, 9, 0, 1, 2, 3, 4, 5, 6, 7, 8, 9], [7])])
def portolanlaw05_FlowBoth.B10 : List Nat := [0, 0, 3, 0, 0, 31, 0, 127, 255, 511, 1023]
theorem portolanlaw05_FlowBoth.tab10 : rtab .any (opsOf Try.f4 10) = portolanlaw05_FlowBoth.T10 := by kernel_rfl
theorem portolanlaw05_FlowBoth.bits10 : waitsOk portolanlaw05_FlowBoth.T10.2 portolanlaw05_FlowBoth.B10 = true := by kernel_rfl
set_option maxHeartbeats 8000000 in
set_option maxRecDepth 100000 in
theorem portolanlaw05_FlowBoth.calls (k : Nat) (A0_0 : Option Addr) (c0_0 : Nat) (l0_0 : List (S30)) (a1_0 : Int) (a1_1 : Int) (w : World) (hr0_0 : Kd.C k30 w A0_0 l0_0.length l0_0) (hc0_0 : l0_0.length ≤ c0_0) (h : portolanlaw05_FlowBoth.f k l0_0 a1_0 a1_1 = some true) :
  Calls Try.prog 4 #[.agg #[.slice A0_0 l0_0.length c0_0], .agg #[.int .u8 a1_0, .int .u8 a1_1]] w fun e w' => e = .returned (.bool true) ∧ Below w.heap.size w w' := by
 have hu24 := Try.underlying24
 have hu38 := Try.underlying38
 have hu30 := Try.underlying30
 have hu40 := Try.underlying40
 have HR0_0 := Aside0.mk hr0_0
 have HC0_0 := Aside0.mk hc0_0
 clear hr0_0 hc0_0
 have HB := Aside0.mk (Below.refl w.heap.size w)
 have H : ((portolanlaw05_alive.f k).bind fun t338 => (if t338 = true then ((portolanlaw05_out.f k l0_0).bind fun t339 => (if t339 = true then (some true) else (portolanlaw05_FlowBoth.l0 k 0 l0_0 a1_0 a1_1))) else (some false))) = some true := h
 clear h
 replace H := Option.bind_eq_some_iff.mp H
 obtain ⟨t338, A30, H⟩ := H
 replace H : (if t338 = true then ((portolanlaw05_out.f k l0_0).bind fun t339 => (if t339 = true then (some true) else (portolanlaw05_FlowBoth.l0 k 0 l0_0 a1_0 a1_1))) else (some false)) = some true := H
 have A3 := Aside0.mk A30
 clear A30
 by_cases c4 : t338 = true
 ·subst c4
  have H1 : ((portolanlaw05_out.f k l0_0).bind fun t339 => (if t339 = true then (some true) else (portolanlaw05_FlowBoth.l0 k 0 l0_0 a1_0 a1_1))) = some true := by first | (rw [if_pos rfl] at H; exact H) | rfl
  clear H
  have H := H1
  clear H1
  replace H := Option.bind_eq_some_iff.mp H
  obtain ⟨t339, A50, H⟩ := H
  replace H : (if t339 = true then (some true) else (portolanlaw05_FlowBoth.l0 k 0 l0_0 a1_0 a1_1)) = some true := H
  have A5 := Aside0.mk A50
  clear A50
  by_cases c6 : t339 = true
  ·subst c6
   have H1 : (some true) = some true := by first | (rw [if_pos rfl] at H; exact H) | rfl
   clear H
   have H := H1
   clear H1
   clear H
   go_enter Try.func4, Try.ntmps4
   go_wp2_with (first | ((with_reducible refine gate_dst (N := 2) rfl ?_); refine box_event ?hg (N := 2) ?hd (cs := #[.slice A0_0 l0_0.length c0_0]) (t := 24) ?hr ?_; (case hd => rfl); (case hg => rfl); (case hr => first | (go_simp; done) | (go_simp; rfl)); intro gb336 hg w7 hbox hb; have n0_ := Aside0.mk (below_step (by repeat (first | (with_reducible first | exact HB.out | apply zq5 | apply zq4 | apply zq6) | exact HB.out)) hb); have n1_ := Aside0.mk (hbox); have n2_ := Aside0.mk ((by rw [hg]; exact (below_size (by repeat (first | (with_reducible first | exact HB.out | apply zq5 | apply zq4 | apply zq6) | exact HB.out))) : w.heap.size ≤ gb336)); have n3_ := Aside0.mk ((by rw [hg]; exact (below_size (by repeat (first | (with_reducible first | exact HB.out | apply zq5 | apply zq4 | apply zq6) | exact HB.out))) : w.heap.size ≤ gb336)); clear HB; have HB := n0_; have BK336 := n1_; have GW336 := n2_; have GE336 := n3_; clear n0_ n1_ n2_ n3_; clear hb hbox hg) | ((with_reducible refine gate_dst (N := 3) rfl ?_); refine box_event ?hg (N := 3) ?hd (cs := #[.int .u8 a1_0, .int .u8 a1_1]) (t := 38) ?hr ?_; (case hd => rfl); (case hg => rfl); (case hr => first | (go_simp; done) | (go_simp; rfl)); intro gb337 hg w8 hbox hb; have n0_ := Aside0.mk (blk_below (g := gb336) (o := .cells #[.slice A0_0 l0_0.length c0_0] 24 (0, 0)) (by (with_reducible repeat (first | refine zq1 ?_ _ | refine zq2 ?_ | refine zq3 ?_ _)); exact BK336.out) hb); have n1_ := Aside0.mk (below_step (by repeat (first | (with_reducible first | exact HB.out | apply zq5 | apply zq4 | apply zq6 | refine below_set ?_ GE336.out) | exact HB.out)) hb); have n2_ := Aside0.mk (hbox); have n3_ := Aside0.mk ((by rw [hg]; exact (below_size (by repeat (first | (with_reducible first | exact HB.out | apply zq5 | apply zq4 | apply zq6 | refine below_set ?_ GE336.out) | exact HB.out))) : w.heap.size ≤ gb337)); have n4_ := Aside0.mk ((by rw [hg]; exact (below_size (by repeat (first | (with_reducible first | exact HB.out | apply zq5 | apply zq4 | apply zq6 | refine below_set ?_ GE336.out) | exact HB.out))) : w.heap.size ≤ gb337)); have n5_ := Aside0.mk ((by rw [hg]; exact Nat.ne_of_lt (blk_lt (g := gb336) (o := .cells #[.slice A0_0 l0_0.length c0_0] 24 (0, 0)) (by (with_reducible repeat (first | refine zq1 ?_ _ | refine zq2 ?_ | refine zq3 ?_ _)); exact BK336.out)) : gb336 ≠ gb337)); have n6_ := Aside0.mk ((by rw [hg]; exact Nat.ne_of_gt (blk_lt (g := gb336) (o := .cells #[.slice A0_0 l0_0.length c0_0] 24 (0, 0)) (by (with_reducible repeat (first | refine zq1 ?_ _ | refine zq2 ?_ | refine zq3 ?_ _)); exact BK336.out)) : gb337 ≠ gb336)); clear BK336; clear HB; have BK336 := n0_; have HB := n1_; have BK337 := n2_; have GW337 := n3_; have GE337 := n4_; have NB336_337 := n5_; have NB337_336 := n6_; clear n0_ n1_ n2_ n3_ n4_ n5_ n6_; clear hb hbox hg) | ((with_reducible refine gate_callee (f := 16) rfl ?_); refine goesL_ (some 18) rfl rfl Try.func16 (by kernel_rfl) rfl #[] rfl (by (try simp only [List.map_toArray, List.map_cons, List.map_nil]); first | done | rfl | (simp only [List.length_drop, List.length_take]; rfl)) ?_; (with_reducible refine (portolanlaw05_alive.calls k  true _ A3.out).mono ?_); rintro e w9 ⟨rfl, hb⟩; refine ⟨_, rfl, ?_⟩; have n0_ := Aside0.mk (blk_below (g := gb336) (o := .cells #[.slice A0_0 l0_0.length c0_0] 24 (0, 0)) (by (with_reducible repeat (first | refine zq1 ?_ _ | refine zq2 ?_ | refine zq3 ?_ _)); exact BK336.out) hb); have n1_ := Aside0.mk (blk_below (g := gb337) (o := .cells #[.int .u8 a1_0, .int .u8 a1_1] 38 (0, 0)) (by (with_reducible repeat (first | refine zq1 ?_ _ | refine zq2 ?_ | refine zq3 ?_ _)); exact BK337.out) hb); have n2_ := Aside0.mk (below_step (by repeat (first | (with_reducible first | exact HB.out | apply zq5 | apply zq4 | apply zq6 | refine below_set ?_ GE336.out | refine below_set ?_ GE337.out) | exact HB.out)) hb); clear BK336; clear BK337; clear HB; have BK336 := n0_; have BK337 := n1_; have HB := n2_; clear n0_ n1_ n2_; (try clear hb); (try clear hb2); (try clear hk); (try clear hi); have hnb10 := NB336_337.out; have hnc10 := NB337_336.out; have hcz11_0 : w9.cell? ⟨gb336, 0, none⟩ = some (.slice A0_0 l0_0.length c0_0) := (blk_cell BK336.out 0).trans rfl; have hfz11_0 := blk_frozen BK336.out 0) | ((with_reducible refine gate_callee (f := 17) rfl ?_); refine goesL_ (some 21) rfl rfl Try.func17 (by kernel_rfl) rfl #[.agg #[.slice A0_0 l0_0.length c0_0]] rfl (by (try simp only [List.map_toArray, List.map_cons, List.map_nil]); first | done | rfl | (simp only [List.length_drop, List.length_take]; rfl)) ?_; (with_reducible refine (portolanlaw05_out.calls k _ _ l0_0 true _ ?side1 ?side2 A5.out).mono ?_); (case side1 => repeat (first | exact (Kd.C_below HR0_0.out HB.out) | (with_reducible refine Kd.C_alloc ?_ _) | (with_reducible refine Kd.C_drewN ?_ _) | (with_reducible refine Kd.C_drew ?_))); (case side2 => exact HC0_0.out); rintro e w12 ⟨rfl, hb⟩; refine ⟨_, rfl, ?_⟩; have n0_ := Aside0.mk (blk_below (g := gb336) (o := .cells #[.slice A0_0 l0_0.length c0_0] 24 (0, 0)) (by (with_reducible repeat (first | refine zq1 ?_ _ | refine zq2 ?_ | refine zq3 ?_ _)); exact BK336.out) hb); have n1_ := Aside0.mk (blk_below (g := gb337) (o := .cells #[.int .u8 a1_0, .int .u8 a1_1] 38 (0, 0)) (by (with_reducible repeat (first | refine zq1 ?_ _ | refine zq2 ?_ | refine zq3 ?_ _)); exact BK337.out) hb); have n2_ := Aside0.mk (below_step (by repeat (first | (with_reducible first | exact HB.out | apply zq5 | apply zq4 | apply zq6 | refine below_set ?_ GE336.out | refine below_set ?_ GE337.out) | exact HB.out)) hb); clear BK336; clear BK337; clear HB; have BK336 := n0_; have BK337 := n1_; have HB := n2_; clear n0_ n1_ n2_; (try clear hb); (try clear hb2); (try clear hk); (try clear hi)))
   go_ret
   exact ⟨by first | rfl | (simp [errW_none, errW_some] <;> rfl) | (simp [*, errW_none, errW_some] <;> rfl), by repeat (first | (with_reducible first | exact HB.out | apply zq5 | apply zq4 | apply zq6 | refine below_set ?_ GE336.out | refine below_set ?_ GE337.out) | exact HB.out)⟩
  ·replace c6 := Bool.eq_false_iff.mpr c6
   subst c6
   have H1 : (portolanlaw05_FlowBoth.l0 k 0 l0_0 a1_0 a1_1) = some true := by first | (rw [if_neg (show ¬ (false = true) by decide)] at H; exact H) | rfl
   clear H
   have H := H1
   clear H1
   have H' := Aside0.mk H
   clear H
   go_enter Try.func4, Try.ntmps4
   go_wp2_with (first | ((with_reducible refine gate_dst (N := 2) rfl ?_); refine box_event ?hg (N := 2) ?hd (cs := #[.slice A0_0 l0_0.length c0_0]) (t := 24) ?hr ?_; (case hd => rfl); (case hg => rfl); (case hr => first | (go_simp; done) | (go_simp; rfl)); intro gb336 hg w13 hbox hb; have n0_ := Aside0.mk (below_step (by repeat (first | (with_reducible first | exact HB.out | apply zq5 | apply zq4 | apply zq6) | exact HB.out)) hb); have n1_ := Aside0.mk (hbox); have n2_ := Aside0.mk ((by rw [hg]; exact (below_size (by repeat (first | (with_reducible first | exact HB.out | apply zq5 | apply zq4 | apply zq6) | exact HB.out))) : w.heap.size ≤ gb336)); have n3_ := Aside0.mk ((by rw [hg]; exact (below_size (by repeat (first | (with_reducible first | exact HB.out | apply zq5 | apply zq4 | apply zq6) | exact HB.out))) : w.heap.size ≤ gb336)); clear HB; have HB := n0_; have BK336 := n1_; have GW336 := n2_; have GE336 := n3_; clear n0_ n1_ n2_ n3_; clear hb hbox hg) | ((with_reducible refine gate_dst (N := 3) rfl ?_); refine box_event ?hg (N := 3) ?hd (cs := #[.int .u8 a1_0, .int .u8 a1_1]) (t := 38) ?hr ?_; (case hd => rfl); (case hg => rfl); (case hr => first | (go_simp; done) | (go_simp; rfl)); intro gb337 hg w14 hbox hb; have n0_ := Aside0.mk (blk_below (g := gb336) (o := .cells #[.slice A0_0 l0_0.length c0_0] 24 (0, 0)) (by (with_reducible repeat (first | refine zq1 ?_ _ | refine zq2 ?_ | refine zq3 ?_ _)); exact BK336.out) hb); have n1_ := Aside0.mk (below_step (by repeat (first | (with_reducible first | exact HB.out | apply zq5 | apply zq4 | apply zq6 | refine below_set ?_ GE336.out) | exact HB.out)) hb); have n2_ := Aside0.mk (hbox); have n3_ := Aside0.mk ((by rw [hg]; exact (below_size (by repeat (first | (with_reducible first | exact HB.out | apply zq5 | apply zq4 | apply zq6 | refine below_set ?_ GE336.out) | exact HB.out))) : w.heap.size ≤ gb337)); have n4_ := Aside0.mk ((by rw [hg]; exact (below_size (by repeat (first | (with_reducible first | exact HB.out | apply zq5 | apply zq4 | apply zq6 | refine below_set ?_ GE336.out) | exact HB.out))) : w.heap.size ≤ gb337)); have n5_ := Aside0.mk ((by rw [hg]; exact Nat.ne_of_lt (blk_lt (g := gb336) (o := .cells #[.slice A0_0 l0_0.length c0_0] 24 (0, 0)) (by (with_reducible repeat (first | refine zq1 ?_ _ | refine zq2 ?_ | refine zq3 ?_ _)); exact BK336.out)) : gb336 ≠ gb337)); have n6_ := Aside0.mk ((by rw [hg]; exact Nat.ne_of_gt (blk_lt (g := gb336) (o := .cells #[.slice A0_0 l0_0.length c0_0] 24 (0, 0)) (by (with_reducible repeat (first | refine zq1 ?_ _ | refine zq2 ?_ | refine zq3 ?_ _)); exact BK336.out)) : gb337 ≠ gb336)); clear BK336; clear HB; have BK336 := n0_; have HB := n1_; have BK337 := n2_; have GW337 := n3_; have GE337 := n4_; have NB336_337 := n5_; have NB337_336 := n6_; clear n0_ n1_ n2_ n3_ n4_ n5_ n6_; clear hb hbox hg) | ((with_reducible refine gate_callee (f := 16) rfl ?_); refine goesL_ (some 18) rfl rfl Try.func16 (by kernel_rfl) rfl #[] rfl (by (try simp only [List.map_toArray, List.map_cons, List.map_nil]); first | done | rfl | (simp only [List.length_drop, List.length_take]; rfl)) ?_; (with_reducible refine (portolanlaw05_alive.calls k  true _ A3.out).mono ?_); rintro e w15 ⟨rfl, hb⟩; refine ⟨_, rfl, ?_⟩; have n0_ := Aside0.mk (blk_below (g := gb336) (o := .cells #[.slice A0_0 l0_0.length c0_0] 24 (0, 0)) (by (with_reducible repeat (first | refine zq1 ?_ _ | refine zq2 ?_ | refine zq3 ?_ _)); exact BK336.out) hb); have n1_ := Aside0.mk (blk_below (g := gb337) (o := .cells #[.int .u8 a1_0, .int .u8 a1_1] 38 (0, 0)) (by (with_reducible repeat (first | refine zq1 ?_ _ | refine zq2 ?_ | refine zq3 ?_ _)); exact BK337.out) hb); have n2_ := Aside0.mk (below_step (by repeat (first | (with_reducible first | exact HB.out | apply zq5 | apply zq4 | apply zq6 | refine below_set ?_ GE336.out | refine below_set ?_ GE337.out) | exact HB.out)) hb); clear BK336; clear BK337; clear HB; have BK336 := n0_; have BK337 := n1_; have HB := n2_; clear n0_ n1_ n2_; (try clear hb); (try clear hb2); (try clear hk); (try clear hi); have hnb16 := NB336_337.out; have hnc16 := NB337_336.out; have hcz17_0 : w15.cell? ⟨gb336, 0, none⟩ = some (.slice A0_0 l0_0.length c0_0) := (blk_cell BK336.out 0).trans rfl; have hfz17_0 := blk_frozen BK336.out 0) | ((with_reducible refine gate_callee (f := 17) rfl ?_); refine goesL_ (some 21) rfl rfl Try.func17 (by kernel_rfl) rfl #[.agg #[.slice A0_0 l0_0.length c0_0]] rfl (by (try simp only [List.map_toArray, List.map_cons, List.map_nil]); first | done | rfl | (simp only [List.length_drop, List.length_take]; rfl)) ?_; (with_reducible refine (portolanlaw05_out.calls k _ _ l0_0 false _ ?side1 ?side2 A5.out).mono ?_); (case side1 => repeat (first | exact (Kd.C_below HR0_0.out HB.out) | (with_reducible refine Kd.C_alloc ?_ _) | (with_reducible refine Kd.C_drewN ?_ _) | (with_reducible refine Kd.C_drew ?_))); (case side2 => exact HC0_0.out); rintro e w18 ⟨rfl, hb⟩; refine ⟨_, rfl, ?_⟩; have n0_ := Aside0.mk (blk_below (g := gb336) (o := .cells #[.slice A0_0 l0_0.length c0_0] 24 (0, 0)) (by (with_reducible repeat (first | refine zq1 ?_ _ | refine zq2 ?_ | refine zq3 ?_ _)); exact BK336.out) hb); have n1_ := Aside0.mk (blk_below (g := gb337) (o := .cells #[.int .u8 a1_0, .int .u8 a1_1] 38 (0, 0)) (by (with_reducible repeat (first | refine zq1 ?_ _ | refine zq2 ?_ | refine zq3 ?_ _)); exact BK337.out) hb); have n2_ := Aside0.mk (below_step (by repeat (first | (with_reducible first | exact HB.out | apply zq5 | apply zq4 | apply zq6 | refine below_set ?_ GE336.out | refine below_set ?_ GE337.out) | exact HB.out)) hb); clear BK336; clear BK337; clear HB; have BK336 := n0_; have BK337 := n1_; have HB := n2_; clear n0_ n1_ n2_; (try clear hb); (try clear hb2); (try clear hk); (try clear hi)))
   go_loopg [5] k (fun kq v5 w' => ∃ (x5_1 : Int), v5 = .int .i64 x5_1 ∧ Aside0 (portolanlaw05_FlowBoth.l0 kq x5_1 l0_0 a1_0 a1_1 = some true) ∧ Aside0 (kq ≤ k) ∧ Aside0 (w'.heap[gb336]? = some (.cells #[(.slice A0_0 l0_0.length c0_0)] 24 (0, 0))) ∧ Aside0 (w'.heap[gb337]? = some (.cells #[.int .u8 a1_0, .int .u8 a1_1] 38 (0, 0))) ∧ Aside0 (Below w.heap.size w w'))
   case atStart => exact ⟨(0), (by first | rfl | (simp; done) | (simp [*]; done)), H', ⟨Nat.le_refl _⟩, ⟨by (with_reducible repeat (first | refine zq1 ?_ _ | refine zq2 ?_ | refine zq3 ?_ _)); exact BK336.out⟩, ⟨by (with_reducible repeat (first | refine zq1 ?_ _ | refine zq2 ?_ | refine zq3 ?_ _)); exact BK337.out⟩, ⟨by repeat (first | (with_reducible first | exact HB.out | apply zq5 | apply zq4 | apply zq6 | refine below_set ?_ GE336.out | refine below_set ?_ GE337.out) | exact HB.out)⟩⟩
   case round =>
    clear H'
    try clear c1
    try clear p2
    try clear c4
    try clear c6
    try clear c10
    try clear c16
    try clear c17
    try clear hcz11_0
    try clear hcz17_0
    try clear hfz11_0
    try clear hfz17_0
    obtain ⟨x5_1, rfl, HA, HK1, BK336, BK337, HB⟩ := hrel
    cases gk with
    | zero => exact absurd HA.out (by simp [portolanlaw05_FlowBoth.l0])
    | succ k1 =>
     have H := HA.out
     clear HA
     simp only [portolanlaw05_FlowBoth.l0] at H
     by_cases c19 : x5_1 < (l0_0.length : Int)
     ·rw [if_pos c19] at H
      have c19b0 : decide (x5_1 < (l0_0.length : Int)) = true := decide_eq_true c19
      clear c19
      by_cases c20 : 0 ≤ x5_1
      ·rw [if_pos c20] at H
       have c20b0 : decide (0 ≤ x5_1) = true := decide_eq_true c20
       clear c20
       by_cases c21 : (((rd_T30 l0_0 x5_1).f4).length : Int) = 0
       ·rw [if_pos c21] at H
        exact absurd H (by simp)
       ·rw [if_neg c21] at H
        have c21b0 : ((((rd_T30 l0_0 x5_1).f4).length : Int) == 0) = false := beq_eq_false_iff_ne.mpr c21
        have c21b1 : ((((rd_T30 l0_0 x5_1).f4).length : Int) != 0) = true := bne_iff_ne.mpr c21
        have c21b2 : ¬ (((rd_T30 l0_0 x5_1).f4) = []) := fun h_ => c21 (by rw [h_]; rfl)
        replace H := Option.bind_eq_some_iff.mp H
        obtain ⟨t342, A220, H⟩ := H
        replace H : ((flow_Prev.f k1 ((rd_T30 l0_0 x5_1).f0) ((rd_T30 l0_0 x5_1).f1) ((rd_T30 l0_0 x5_1).f2) ((rd_T30 l0_0 x5_1).f3) ((rd_T30 l0_0 x5_1).f4) (Int.tmod (wrap64 (a1_1)) (((rd_T30 l0_0 x5_1).f4).length : Int))).bind fun t345 => ((flow_Edges.f k1 ((rd_T30 l0_0 x5_1).f0) ((rd_T30 l0_0 x5_1).f1) ((rd_T30 l0_0 x5_1).f2) ((rd_T30 l0_0 x5_1).f3) ((rd_T30 l0_0 x5_1).f4)).bind fun t348 => (portolanlaw05_FlowBoth.l1 k1 x5_1 (Int.tmod (wrap64 (a1_0)) (((rd_T30 l0_0 x5_1).f4).length : Int)) (Int.tmod (wrap64 (a1_1)) (((rd_T30 l0_0 x5_1).f4).length : Int)) t342 t345 t348 false false false 0 l0_0 a1_0 a1_1))) = some true := H
        have A22 := Aside0.mk A220
        clear A220
        replace H := Option.bind_eq_some_iff.mp H
        obtain ⟨t345, A230, H⟩ := H
        replace H : ((flow_Edges.f k1 ((rd_T30 l0_0 x5_1).f0) ((rd_T30 l0_0 x5_1).f1) ((rd_T30 l0_0 x5_1).f2) ((rd_T30 l0_0 x5_1).f3) ((rd_T30 l0_0 x5_1).f4)).bind fun t348 => (portolanlaw05_FlowBoth.l1 k1 x5_1 (Int.tmod (wrap64 (a1_0)) (((rd_T30 l0_0 x5_1).f4).length : Int)) (Int.tmod (wrap64 (a1_1)) (((rd_T30 l0_0 x5_1).f4).length : Int)) t342 t345 t348 false false false 0 l0_0 a1_0 a1_1)) = some true := H
        have A23 := Aside0.mk A230
        clear A230
        replace H := Option.bind_eq_some_iff.mp H
        obtain ⟨t348, A240, H⟩ := H
        replace H : (portolanlaw05_FlowBoth.l1 k1 x5_1 (Int.tmod (wrap64 (a1_0)) (((rd_T30 l0_0 x5_1).f4).length : Int)) (Int.tmod (wrap64 (a1_1)) (((rd_T30 l0_0 x5_1).f4).length : Int)) t342 t345 t348 false false false 0 l0_0 a1_0 a1_1) = some true := H
        have A24 := Aside0.mk A240
        clear A240
        have H' := Aside0.mk H
        clear H
        have hnb25 := NB336_337.out
        have hnc25 := NB337_336.out
        have hcz26_0 : wr.cell? ⟨gb336, 0, none⟩ = some (.slice A0_0 l0_0.length c0_0) := (blk_cell BK336.out 0).trans rfl
        have hfz26_0 := blk_frozen BK336.out 0
        have p340 : 0 ≤ (x5_1 : Int) := of_decide_eq_true (by first | (with_reducible assumption) | assumption)
        have q340 : x5_1 < (l0_0.length : Int) := of_decide_eq_true (by first | (with_reducible assumption) | assumption)
        obtain ⟨ad340, A340_0, c340_0, A340_1, c340_1, A340_4, c340_4, e340, hx340_0, hx340_1, hx340_2, hx340_3, hx340_4, hl340_0, hi340_0, hl340_1, hi340_1, hl340_4, hi340_4⟩ := at_T30 HR0_0.out x5_1 p340 q340
        cases e340
        replace hx340_0 := (HB.out.cell (World.block_lt_of_cell? w _ hx340_0)).trans hx340_0
        replace hx340_1 := (HB.out.cell (World.block_lt_of_cell? w _ hx340_1)).trans hx340_1
        replace hx340_2 := (HB.out.cell (World.block_lt_of_cell? w _ hx340_2)).trans hx340_2
        replace hx340_3 := (HB.out.cell (World.block_lt_of_cell? w _ hx340_3)).trans hx340_3
        replace hx340_4 := (HB.out.cell (World.block_lt_of_cell? w _ hx340_4)).trans hx340_4
        have HR340_0 := Aside0.mk hi340_0
        have HC340_0 := Aside0.mk hl340_0
        clear hi340_0 hl340_0
        have HR340_1 := Aside0.mk hi340_1
        have HC340_1 := Aside0.mk hl340_1
        clear hi340_1 hl340_1
        have HR340_4 := Aside0.mk hi340_4
        have HC340_4 := Aside0.mk hl340_4
        clear hi340_4 hl340_4
        replace p340 := eq_true p340
        replace q340 := eq_true q340
        try go_wp2_with (first | ((with_reducible refine gate_dst (N := 6) rfl ?_); refine box_event ?hg (N := 6) ?hd (cs := #[.slice none 0 0, .slice none 0 0, .int .i64 0, .int .i64 0, .slice none 0 0]) (t := 30) ?hr ?_; (case hd => rfl); (case hg => rfl); (case hr => first | (go_simp; done) | (go_simp; rfl)); intro gb341 hg w27 hbox hb; have n0_ := Aside0.mk (blk_below (g := gb336) (o := .cells #[.slice (some ad340) l0_0.length c0_0] 24 (0, 0)) (by (with_reducible repeat (first | refine zq1 ?_ _ | refine zq2 ?_ | refine zq3 ?_ _)); exact BK336.out) hb); have n1_ := Aside0.mk (blk_below (g := gb337) (o := .cells #[.int .u8 a1_0, .int .u8 a1_1] 38 (0, 0)) (by (with_reducible repeat (first | refine zq1 ?_ _ | refine zq2 ?_ | refine zq3 ?_ _)); exact BK337.out) hb); have n2_ := Aside0.mk (below_step (by repeat (first | (with_reducible first | exact HB.out | apply zq5 | apply zq4 | apply zq6 | refine below_set ?_ GE336.out | refine below_set ?_ GE337.out) | exact HB.out)) hb); have n3_ := Aside0.mk (hbox); have n4_ := Aside0.mk ((by rw [hg]; exact (below_size (by repeat (first | (with_reducible first | exact HB.out | apply zq5 | apply zq4 | apply zq6 | refine below_set ?_ GE336.out | refine below_set ?_ GE337.out) | exact HB.out))) : w.heap.size ≤ gb341)); have n5_ := Aside0.mk ((by rw [hg]; exact (below_size (by repeat (first | (with_reducible first | exact HB.out | apply zq5 | apply zq4 | apply zq6 | refine below_set ?_ GE336.out | refine below_set ?_ GE337.out) | exact HB.out))) : w.heap.size ≤ gb341)); have n6_ := Aside0.mk ((by rw [hg]; exact Nat.ne_of_lt (blk_lt (g := gb336) (o := .cells #[.slice (some ad340) l0_0.length c0_0] 24 (0, 0)) (by (with_reducible repeat (first | refine zq1 ?_ _ | refine zq2 ?_ | refine zq3 ?_ _)); exact BK336.out)) : gb336 ≠ gb341)); have n7_ := Aside0.mk ((by rw [hg]; exact Nat.ne_of_gt (blk_lt (g := gb336) (o := .cells #[.slice (some ad340) l0_0.length c0_0] 24 (0, 0)) (by (with_reducible repeat (first | refine zq1 ?_ _ | refine zq2 ?_ | refine zq3 ?_ _)); exact BK336.out)) : gb341 ≠ gb336)); have n8_ := Aside0.mk ((by rw [hg]; exact Nat.ne_of_lt (blk_lt (g := gb337) (o := .cells #[.int .u8 a1_0, .int .u8 a1_1] 38 (0, 0)) (by (with_reducible repeat (first | refine zq1 ?_ _ | refine zq2 ?_ | refine zq3 ?_ _)); exact BK337.out)) : gb337 ≠ gb341)); have n9_ := Aside0.mk ((by rw [hg]; exact Nat.ne_of_gt (blk_lt (g := gb337) (o := .cells #[.int .u8 a1_0, .int .u8 a1_1] 38 (0, 0)) (by (with_reducible repeat (first | refine zq1 ?_ _ | refine zq2 ?_ | refine zq3 ?_ _)); exact BK337.out)) : gb341 ≠ gb337)); clear BK336; clear BK337; clear HB; have BK336 := n0_; have BK337 := n1_; have HB := n2_; have BK341 := n3_; have GW341 := n4_; have GE341 := n5_; have NB336_341 := n6_; have NB341_336 := n7_; have NB337_341 := n8_; have NB341_337 := n9_; clear n0_ n1_ n2_ n3_ n4_ n5_ n6_ n7_ n8_ n9_; clear hb hbox hg; have hnb28 := NB341_336.out; have hnc28 := NB336_341.out; have hnb29 := NB341_337.out; have hnc29 := NB337_341.out; have hcz30_0 : w27.cell? ⟨gb341, 0, none⟩ = some (.slice none 0 0) := (blk_cell BK341.out 0).trans rfl; have hcz30_1 : w27.cell? ⟨gb341, 1, none⟩ = some (.slice none 0 0) := (blk_cell BK341.out 1).trans rfl; have hcz30_2 : w27.cell? ⟨gb341, 2, none⟩ = some (.int .i64 0) := (blk_cell BK341.out 2).trans rfl; have hcz30_3 : w27.cell? ⟨gb341, 3, none⟩ = some (.int .i64 0) := (blk_cell BK341.out 3).trans rfl; have hcz30_4 : w27.cell? ⟨gb341, 4, none⟩ = some (.slice none 0 0) := (blk_cell BK341.out 4).trans rfl; have hfz30_0 := blk_frozen BK341.out 0; have hfz30_1 := blk_frozen BK341.out 1; have hfz30_2 := blk_frozen BK341.out 2; have hfz30_3 := blk_frozen BK341.out 3; have hfz30_4 := blk_frozen BK341.out 4))
        have n0_ : Aside0 ((((((w27.setCell ⟨gb341, 0, none⟩ (.slice A340_0 ((rd_T30 l0_0 x5_1).f0).length c340_0)).setCell ⟨gb341, 1, none⟩ (.slice A340_1 ((rd_T30 l0_0 x5_1).f1).length c340_1)).setCell ⟨gb341, 2, none⟩ (.int .i64 ((rd_T30 l0_0 x5_1).f2))).setCell ⟨gb341, 3, none⟩ (.int .i64 ((rd_T30 l0_0 x5_1).f3))).setCell ⟨gb341, 4, none⟩ (.slice A340_4 ((rd_T30 l0_0 x5_1).f4).length c340_4)).heap[gb336]? = some (.cells #[.slice (some ad340) l0_0.length c0_0] 24 (0, 0))) := ⟨by (with_reducible repeat (first | refine zq1 ?_ _ | refine zq2 ?_ | refine zq3 ?_ _)); refine blk_far ?_ NB336_341.out _; (with_reducible repeat (first | refine zq1 ?_ _ | refine zq2 ?_ | refine zq3 ?_ _)); refine blk_far ?_ NB336_341.out _; (with_reducible repeat (first | refine zq1 ?_ _ | refine zq2 ?_ | refine zq3 ?_ _)); refine blk_far ?_ NB336_341.out _; (with_reducible repeat (first | refine zq1 ?_ _ | refine zq2 ?_ | refine zq3 ?_ _)); refine blk_far ?_ NB336_341.out _; (with_reducible repeat (first | refine zq1 ?_ _ | refine zq2 ?_ | refine zq3 ?_ _)); refine blk_far ?_ NB336_341.out _; (with_reducible repeat (first | refine zq1 ?_ _ | refine zq2 ?_ | refine zq3 ?_ _)); exact BK336.out⟩
        have n1_ : Aside0 ((((((w27.setCell ⟨gb341, 0, none⟩ (.slice A340_0 ((rd_T30 l0_0 x5_1).f0).length c340_0)).setCell ⟨gb341, 1, none⟩ (.slice A340_1 ((rd_T30 l0_0 x5_1).f1).length c340_1)).setCell ⟨gb341, 2, none⟩ (.int .i64 ((rd_T30 l0_0 x5_1).f2))).setCell ⟨gb341, 3, none⟩ (.int .i64 ((rd_T30 l0_0 x5_1).f3))).setCell ⟨gb341, 4, none⟩ (.slice A340_4 ((rd_T30 l0_0 x5_1).f4).length c340_4)).heap[gb337]? = some (.cells #[.int .u8 a1_0, .int .u8 a1_1] 38 (0, 0))) := ⟨by (with_reducible repeat (first | refine zq1 ?_ _ | refine zq2 ?_ | refine zq3 ?_ _)); refine blk_far ?_ NB337_341.out _; (with_reducible repeat (first | refine zq1 ?_ _ | refine zq2 ?_ | refine zq3 ?_ _)); refine blk_far ?_ NB337_341.out _; (with_reducible repeat (first | refine zq1 ?_ _ | refine zq2 ?_ | refine zq3 ?_ _)); refine blk_far ?_ NB337_341.out _; (with_reducible repeat (first | refine zq1 ?_ _ | refine zq2 ?_ | refine zq3 ?_ _)); refine blk_far ?_ NB337_341.out _; (with_reducible repeat (first | refine zq1 ?_ _ | refine zq2 ?_ | refine zq3 ?_ _)); refine blk_far ?_ NB337_341.out _; (with_reducible repeat (first | refine zq1 ?_ _ | refine zq2 ?_ | refine zq3 ?_ _)); exact BK337.out⟩
        have n2_ : Aside0 ((((((w27.setCell ⟨gb341, 0, none⟩ (.slice A340_0 ((rd_T30 l0_0 x5_1).f0).length c340_0)).setCell ⟨gb341, 1, none⟩ (.slice A340_1 ((rd_T30 l0_0 x5_1).f1).length c340_1)).setCell ⟨gb341, 2, none⟩ (.int .i64 ((rd_T30 l0_0 x5_1).f2))).setCell ⟨gb341, 3, none⟩ (.int .i64 ((rd_T30 l0_0 x5_1).f3))).setCell ⟨gb341, 4, none⟩ (.slice A340_4 ((rd_T30 l0_0 x5_1).f4).length c340_4)).heap[gb341]? = some (.cells #[.slice A340_0 ((rd_T30 l0_0 x5_1).f0).length c340_0, .slice A340_1 ((rd_T30 l0_0 x5_1).f1).length c340_1, .int .i64 ((rd_T30 l0_0 x5_1).f2), .int .i64 ((rd_T30 l0_0 x5_1).f3), .slice A340_4 ((rd_T30 l0_0 x5_1).f4).length c340_4] 30 (0, 0))) := ⟨by (with_reducible repeat (first | refine zq1 ?_ _ | refine zq2 ?_ | refine zq3 ?_ _)); refine blk_put (cs := #[.slice A340_0 ((rd_T30 l0_0 x5_1).f0).length c340_0, .slice A340_1 ((rd_T30 l0_0 x5_1).f1).length c340_1, .int .i64 ((rd_T30 l0_0 x5_1).f2), .int .i64 ((rd_T30 l0_0 x5_1).f3), .slice none 0 0]) ?_ 4 _ rfl; (with_reducible repeat (first | refine zq1 ?_ _ | refine zq2 ?_ | refine zq3 ?_ _)); refine blk_put (cs := #[.slice A340_0 ((rd_T30 l0_0 x5_1).f0).length c340_0, .slice A340_1 ((rd_T30 l0_0 x5_1).f1).length c340_1, .int .i64 ((rd_T30 l0_0 x5_1).f2), .int .i64 0, .slice none 0 0]) ?_ 3 _ rfl; (with_reducible repeat (first | refine zq1 ?_ _ | refine zq2 ?_ | refine zq3 ?_ _)); refine blk_put (cs := #[.slice A340_0 ((rd_T30 l0_0 x5_1).f0).length c340_0, .slice A340_1 ((rd_T30 l0_0 x5_1).f1).length c340_1, .int .i64 0, .int .i64 0, .slice none 0 0]) ?_ 2 _ rfl; (with_reducible repeat (first | refine zq1 ?_ _ | refine zq2 ?_ | refine zq3 ?_ _)); refine blk_put (cs := #[.slice A340_0 ((rd_T30 l0_0 x5_1).f0).length c340_0, .slice none 0 0, .int .i64 0, .int .i64 0, .slice none 0 0]) ?_ 1 _ rfl; (with_reducible repeat (first | refine zq1 ?_ _ | refine zq2 ?_ | refine zq3 ?_ _)); refine blk_put (cs := #[.slice none 0 0, .slice none 0 0, .int .i64 0, .int .i64 0, .slice none 0 0]) ?_ 0 _ rfl; (with_reducible repeat (first | refine zq1 ?_ _ | refine zq2 ?_ | refine zq3 ?_ _)); exact BK341.out⟩
        have n3_ : Aside0 (Below w.heap.size w (((((w27.setCell ⟨gb341, 0, none⟩ (.slice A340_0 ((rd_T30 l0_0 x5_1).f0).length c340_0)).setCell ⟨gb341, 1, none⟩ (.slice A340_1 ((rd_T30 l0_0 x5_1).f1).length c340_1)).setCell ⟨gb341, 2, none⟩ (.int .i64 ((rd_T30 l0_0 x5_1).f2))).setCell ⟨gb341, 3, none⟩ (.int .i64 ((rd_T30 l0_0 x5_1).f3))).setCell ⟨gb341, 4, none⟩ (.slice A340_4 ((rd_T30 l0_0 x5_1).f4).length c340_4))) := ⟨by repeat (first | (with_reducible first | exact HB.out | apply zq5 | apply zq4 | apply zq6 | refine below_set ?_ GE336.out | refine below_set ?_ GE337.out | refine below_set ?_ GE341.out) | exact HB.out)⟩
        (try clear BK336)
        (try clear BK337)
        (try clear BK341)
        (try clear HB)
        generalize (((((w27.setCell ⟨gb341, 0, none⟩ (.slice A340_0 ((rd_T30 l0_0 x5_1).f0).length c340_0)).setCell ⟨gb341, 1, none⟩ (.slice A340_1 ((rd_T30 l0_0 x5_1).f1).length c340_1)).setCell ⟨gb341, 2, none⟩ (.int .i64 ((rd_T30 l0_0 x5_1).f2))).setCell ⟨gb341, 3, none⟩ (.int .i64 ((rd_T30 l0_0 x5_1).f3))).setCell ⟨gb341, 4, none⟩ (.slice A340_4 ((rd_T30 l0_0 x5_1).f4).length c340_4)) = w31 at n0_ n1_ n2_ n3_ ⊢
        have BK336 := n0_
        have BK337 := n1_
        have BK341 := n2_
        have HB := n3_
        clear n0_ n1_ n2_ n3_
        have n0_ := Aside0.mk (blk_drew BK336.out)
        have n1_ := Aside0.mk (blk_drew BK337.out)
        have n2_ := Aside0.mk (blk_drew BK341.out)
        have n3_ := Aside0.mk (below_drew1 HB.out)
        clear BK336
        clear BK337
        clear BK341
        clear HB
        have BK336 := n0_
        have BK337 := n1_
        have BK341 := n2_
        have HB := n3_
        clear n0_ n1_ n2_ n3_
        refine start_ (n := 16) (S := fun w' => w'.cell? ⟨gb337, 0, none⟩ = some (.int .u8 a1_0) ∧ w'.cell? ⟨gb337, 1, none⟩ = some (.int .u8 a1_1) ∧ w'.cell? ⟨gb341, 0, none⟩ = some (.slice A340_0 ((rd_T30 l0_0 x5_1).f0).length c340_0) ∧ w'.cell? ⟨gb341, 1, none⟩ = some (.slice A340_1 ((rd_T30 l0_0 x5_1).f1).length c340_1) ∧ w'.cell? ⟨gb341, 2, none⟩ = some (.int .i64 ((rd_T30 l0_0 x5_1).f2)) ∧ w'.cell? ⟨gb341, 3, none⟩ = some (.int .i64 ((rd_T30 l0_0 x5_1).f3)) ∧ w'.cell? ⟨gb341, 4, none⟩ = some (.slice A340_4 ((rd_T30 l0_0 x5_1).f4).length c340_4)) (ds := []) #[false, false, false, false, false, false, false, false, false, false, false, false, false, false, false, false] (by kernel_rfl) rfl rfl ⟨(blk_cell BK337.out 0).trans rfl, (blk_cell BK337.out 1).trans rfl, (blk_cell BK341.out 0).trans rfl, (blk_cell BK341.out 1).trans rfl, (blk_cell BK341.out 2).trans rfl, (blk_cell BK341.out 3).trans rfl, (blk_cell BK341.out 4).trans rfl⟩ (fun hHeld => ?_); refine with_tabW portolanlaw05_FlowBoth.tab9 portolanlaw05_FlowBoth.bits9 (fun HT_ HW_ => ?_)
        generalize w31.drew = w32 at BK336 BK337 BK341 HB hHeld ⊢
        refine pure_ (i := 0) (N := some 34) (v := ?_) (a' := ?_) #[true, false, false, false, false, false, false, false, false, false, false, false, false, false, false, false] rfl rfl (any_of HT_.out (by kernel_rfl)) (fun _ _ _ h => h) (Or.inl ⟨by rfl, ?_⟩) ?_ ?_
        rotate_left
        ·intro w'
         go_simp
         with_reducible rfl
        rotate_left
        ·simp only [Act.put, List.setIfInBounds_toArray, List.set_cons_zero, List.set_cons_succ, i64_w, i32_w]
         rfl
        refine pure_ (i := 3) (N := some 37) (v := ?_) (a' := ?_) #[true, false, false, true, false, false, false, false, false, false, false, false, false, false, false, false] rfl rfl (any_of HT_.out (by kernel_rfl)) (fun _ _ _ h => h) (Or.inl ⟨by rfl, ?_⟩) ?_ ?_
        rotate_left
        ·intro w'
         go_simp
         with_reducible rfl
        rotate_left
        ·simp only [Act.put, List.setIfInBounds_toArray, List.set_cons_zero, List.set_cons_succ, i64_w, i32_w]
         rfl
        refine pure_ (i := 7) (N := some 41) (v := ?_) (a' := ?_) #[true, false, false, true, false, false, false, true, false, false, false, false, false, false, false, false] rfl rfl (any_of HT_.out (by kernel_rfl)) (fun _ _ _ h => h) (Or.inl ⟨by rfl, ?_⟩) ?_ ?_
        rotate_left
        ·intro w'
         go_simp
         with_reducible rfl
        rotate_left
        ·simp only [Act.put, List.setIfInBounds_toArray, List.set_cons_zero, List.set_cons_succ, i64_w, i32_w]
         rfl
        refine pure_ (i := 10) (N := some 44) (v := ?_) (a' := ?_) #[true, false, false, true, false, false, false, true, false, false, true, false, false, false, false, false] rfl rfl (any_of HT_.out (by kernel_rfl)) (fun _ _ _ h => h) (Or.inl ⟨by rfl, ?_⟩) ?_ ?_
        rotate_left
        ·intro w'
         go_simp
         with_reducible rfl
        rotate_left
        ·simp only [Act.put, List.setIfInBounds_toArray, List.set_cons_zero, List.set_cons_succ, i64_w, i32_w]
         rfl
        refine take_ (i := 1) (N := some 35) (v := ?_) (a' := ?_) #[true, true, false, true, false, false, false, true, false, false, true, false, false, false, false, false] rfl rfl (take_ofW HT_.out HW_.out (by kernel_rfl)) (fun _ _ _ h => h) (Or.inl ⟨by rfl, ?_⟩) hHeld ?_ ?_
        rotate_left
        ·rintro w' ⟨s0, s1, s2, s3, s4, s5, s6⟩
         go_simp
         with_reducible rfl
        rotate_left
        ·simp only [Act.put, List.setIfInBounds_toArray, List.set_cons_zero, List.set_cons_succ, i64_w, i32_w]
         rfl
        refine pure_ (i := 2) (N := some 36) (v := ?_) (a' := ?_) #[true, true, true, true, false, false, false, true, false, false, true, false, false, false, false, false] rfl rfl (any_of HT_.out (by kernel_rfl)) (fun _ _ _ h => h) (Or.inl ⟨by rfl, ?_⟩) ?_ ?_
        rotate_left
        ·intro w'
         go_simp
         with_reducible rfl
        rotate_left
        ·simp only [Act.put, List.setIfInBounds_toArray, List.set_cons_zero, List.set_cons_succ, i64_w, i32_w]
         rfl
        refine take_ (i := 4) (N := some 38) (v := ?_) (a' := ?_) #[true, true, true, true, true, false, false, true, false, false, true, false, false, false, false, false] rfl rfl (take_ofW HT_.out HW_.out (by kernel_rfl)) (fun _ _ _ h => h) (Or.inl ⟨by rfl, ?_⟩) hHeld ?_ ?_
        rotate_left
        ·rintro w' ⟨s0, s1, s2, s3, s4, s5, s6⟩
         go_simp
         with_reducible rfl
        rotate_left
        ·simp only [Act.put, List.setIfInBounds_toArray, List.set_cons_zero, List.set_cons_succ, i64_w, i32_w]
         rfl
        refine pure_ (i := 5) (N := some 39) (v := ?_) (a' := ?_) #[true, true, true, true, true, true, false, true, false, false, true, false, false, false, false, false] rfl rfl (any_of HT_.out (by kernel_rfl)) (fun _ _ _ h => h) (Or.inl ⟨by rfl, ?_⟩) ?_ ?_
        rotate_left
        ·intro w'
         go_simp
         with_reducible rfl
        rotate_left
        ·simp only [Act.put, List.setIfInBounds_toArray, List.set_cons_zero, List.set_cons_succ, i64_w, i32_w]
         rfl
        refine pure_ (i := 6) (N := some 40) (v := ?_) (a' := ?_) #[true, true, true, true, true, true, true, true, false, false, true, false, false, false, false, false] rfl rfl (any_of HT_.out (by kernel_rfl)) (fun _ _ _ h => h) (Or.inl ⟨by rfl, ?_⟩) ?_ ?_
        rotate_left
        ·intro w'
         go_simp
         with_reducible rfl
        rotate_left
        ·simp only [Act.put, List.setIfInBounds_toArray, List.set_cons_zero, List.set_cons_succ, i64_w, i32_w]
         rfl
        refine pure_ (i := 14) (N := some 7) (v := ?_) (a' := ?_) #[true, true, true, true, true, true, true, true, false, false, true, false, false, false, true, false] rfl rfl (any_of HT_.out (by kernel_rfl)) (fun _ _ _ h => h) (Or.inl ⟨by rfl, ?_⟩) ?_ ?_
        rotate_left
        ·intro w'
         go_simp
         with_reducible rfl
        rotate_left
        ·simp only [Act.put, List.setIfInBounds_toArray, List.set_cons_zero, List.set_cons_succ, i64_w, i32_w]
         rfl
        refine take_ (i := 8) (N := some 42) (v := ?_) (a' := ?_) #[true, true, true, true, true, true, true, true, true, false, true, false, false, false, true, false] rfl rfl (take_ofW HT_.out HW_.out (by kernel_rfl)) (fun _ _ _ h => h) (Or.inl ⟨by rfl, ?_⟩) hHeld ?_ ?_
        rotate_left
        ·rintro w' ⟨s0, s1, s2, s3, s4, s5, s6⟩
         go_simp
         with_reducible rfl
        rotate_left
        ·simp only [Act.put, List.setIfInBounds_toArray, List.set_cons_zero, List.set_cons_succ, i64_w, i32_w]
         rfl
        refine pure_ (i := 9) (N := some 43) (v := ?_) (a' := ?_) #[true, true, true, true, true, true, true, true, true, true, true, false, false, false, true, false] rfl rfl (any_of HT_.out (by kernel_rfl)) (fun _ _ _ h => h) (Or.inl ⟨by rfl, ?_⟩) ?_ ?_
        rotate_left
        ·intro w'
         go_simp
         with_reducible rfl
        rotate_left
        ·simp only [Act.put, List.setIfInBounds_toArray, List.set_cons_zero, List.set_cons_succ, i64_w, i32_w]
         rfl
        refine take_ (i := 11) (N := some 45) (v := ?_) (a' := ?_) #[true, true, true, true, true, true, true, true, true, true, true, true, false, false, true, false] rfl rfl (take_ofW HT_.out HW_.out (by kernel_rfl)) (fun _ _ _ h => h) (Or.inl ⟨by rfl, ?_⟩) hHeld ?_ ?_
        rotate_left
        ·rintro w' ⟨s0, s1, s2, s3, s4, s5, s6⟩
         go_simp
         with_reducible rfl
        rotate_left
        ·simp only [Act.put, List.setIfInBounds_toArray, List.set_cons_zero, List.set_cons_succ, i64_w, i32_w]
         rfl
        refine pure_ (i := 12) (N := some 46) (v := ?_) (a' := ?_) #[true, true, true, true, true, true, true, true, true, true, true, true, true, false, true, false] rfl rfl (any_of HT_.out (by kernel_rfl)) (fun _ _ _ h => h) (Or.inl ⟨by rfl, ?_⟩) ?_ ?_
        rotate_left
        ·intro w'
         go_simp
         with_reducible rfl
        rotate_left
        ·simp only [Act.put, List.setIfInBounds_toArray, List.set_cons_zero, List.set_cons_succ, i64_w, i32_w]
         rfl
        refine pure_ (i := 13) (N := some 47) (v := ?_) (a' := ?_) #[true, true, true, true, true, true, true, true, true, true, true, true, true, true, true, false] rfl rfl (any_of HT_.out (by kernel_rfl)) (fun _ _ _ h => h) (Or.inl ⟨by rfl, ?_⟩) ?_ ?_
        rotate_left
        ·intro w'
         go_simp
         with_reducible rfl
        rotate_left
        ·simp only [Act.put, List.setIfInBounds_toArray, List.set_cons_zero, List.set_cons_succ, i64_w, i32_w]
         rfl
        refine pure_ (i := 15) (N := some 8) (v := ?_) (a' := ?_) #[true, true, true, true, true, true, true, true, true, true, true, true, true, true, true, true] rfl rfl (any_of HT_.out (by kernel_rfl)) (fun _ _ _ h => h) (Or.inl ⟨by rfl, ?_⟩) ?_ ?_
        rotate_left
        ·intro w'
         go_simp
         with_reducible rfl
        rotate_left
        ·simp only [Act.put, List.setIfInBounds_toArray, List.set_cons_zero, List.set_cons_succ, i64_w, i32_w]
         rfl
        refine done_ (done_of HT_.out (by kernel_rfl)) ?_
        try go_wp2
        have n0_ := Aside0.mk (blk_drew BK336.out)
        have n1_ := Aside0.mk (blk_drew BK337.out)
        have n2_ := Aside0.mk (blk_drew BK341.out)
        have n3_ := Aside0.mk (below_drew1 HB.out)
        clear BK336
        clear BK337
        clear BK341
        clear HB
        have BK336 := n0_
        have BK337 := n1_
        have BK341 := n2_
        have HB := n3_
        clear n0_ n1_ n2_ n3_
        refine start_ (n := 11) (S := fun w' => w'.cell? ⟨gb341, 0, none⟩ = some (.slice A340_0 ((rd_T30 l0_0 x5_1).f0).length c340_0) ∧ w'.cell? ⟨gb341, 1, none⟩ = some (.slice A340_1 ((rd_T30 l0_0 x5_1).f1).length c340_1) ∧ w'.cell? ⟨gb341, 2, none⟩ = some (.int .i64 ((rd_T30 l0_0 x5_1).f2)) ∧ w'.cell? ⟨gb341, 3, none⟩ = some (.int .i64 ((rd_T30 l0_0 x5_1).f3)) ∧ w'.cell? ⟨gb341, 4, none⟩ = some (.slice A340_4 ((rd_T30 l0_0 x5_1).f4).length c340_4)) (ds := []) #[false, false, false, false, false, false, false, false, false, false, false] (by kernel_rfl) rfl rfl ⟨(blk_cell BK341.out 0).trans rfl, (blk_cell BK341.out 1).trans rfl, (blk_cell BK341.out 2).trans rfl, (blk_cell BK341.out 3).trans rfl, (blk_cell BK341.out 4).trans rfl⟩ (fun hHeld => ?_); refine with_tabW portolanlaw05_FlowBoth.tab10 portolanlaw05_FlowBoth.bits10 (fun HT_ HW_ => ?_)
        generalize w32.drew = w33 at BK336 BK337 BK341 HB hHeld ⊢
        refine pure_ (i := 1) (N := some 49) (v := ?_) (a' := ?_) #[false, true, false, false, false, false, false, false, false, false, false] rfl rfl (any_of HT_.out (by kernel_rfl)) (fun _ _ _ h => h) (Or.inl ⟨by rfl, ?_⟩) ?_ ?_
        rotate_left
        ·intro w'
         go_simp
         with_reducible rfl
        rotate_left
        ·simp only [Act.put, List.setIfInBounds_toArray, List.set_cons_zero, List.set_cons_succ, i64_w, i32_w]
         rfl
        refine pure_ (i := 4) (N := some 52) (v := ?_) (a' := ?_) #[false, true, false, false, true, false, false, false, false, false, false] rfl rfl (any_of HT_.out (by kernel_rfl)) (fun _ _ _ h => h) (Or.inl ⟨by rfl, ?_⟩) ?_ ?_
        rotate_left
        ·intro w'
         go_simp
         with_reducible rfl
        rotate_left
        ·simp only [Act.put, List.setIfInBounds_toArray, List.set_cons_zero, List.set_cons_succ, i64_w, i32_w]
         rfl
        refine take_ (i := 0) (N := some 48) (v := ?_) (a' := ?_) #[true, true, false, false, true, false, false, false, false, false, false] rfl rfl (take_ofW HT_.out HW_.out (by kernel_rfl)) (fun _ _ _ h => h) (Or.inl ⟨by rfl, ?_⟩) hHeld ?_ ?_
        rotate_left
        ·rintro w' ⟨s0, s1, s2, s3, s4⟩
         go_simp
         with_reducible rfl
        rotate_left
        ·simp only [Act.put, List.setIfInBounds_toArray, List.set_cons_zero, List.set_cons_succ, i64_w, i32_w]
         rfl
        refine take_ (i := 3) (N := some 51) (v := ?_) (a' := ?_) #[true, true, false, true, true, false, false, false, false, false, false] rfl rfl (take_ofW HT_.out HW_.out (by kernel_rfl)) (fun _ _ _ h => h) (Or.inl ⟨by rfl, ?_⟩) hHeld ?_ ?_
        rotate_left
        ·rintro w' ⟨s0, s1, s2, s3, s4⟩
         go_simp
         with_reducible rfl
        rotate_left
        ·simp only [Act.put, List.setIfInBounds_toArray, List.set_cons_zero, List.set_cons_succ, i64_w, i32_w]
         rfl
        refine take_ (i := 6) (N := some 54) (v := ?_) (a' := ?_) #[true, true, false, true, true, false, true, false, false, false, false] rfl rfl (take_ofW HT_.out HW_.out (by kernel_rfl)) (fun _ _ _ h => h) (Or.inl ⟨by rfl, ?_⟩) hHeld ?_ ?_
        rotate_left
        ·rintro w' ⟨s0, s1, s2, s3, s4⟩
         go_simp
         with_reducible rfl
        rotate_left
        ·simp only [Act.put, List.setIfInBounds_toArray, List.set_cons_zero, List.set_cons_succ, i64_w, i32_w]
         rfl
        refine one_ (i := 2) (N := some 50) #[true, true, true, true, true, false, true, false, false, false, false] rfl rfl (one_of HT_.out (by kernel_rfl)) (by decide) (fun K hK => ?_)
        refine goes_ Try.func19 (by kernel_rfl) rfl #[.agg #[.slice A340_0 ((rd_T30 l0_0 x5_1).f0).length c340_0, .slice A340_1 ((rd_T30 l0_0 x5_1).f1).length c340_1, .int .i64 ((rd_T30 l0_0 x5_1).f2), .int .i64 ((rd_T30 l0_0 x5_1).f3), .slice A340_4 ((rd_T30 l0_0 x5_1).f4).length c340_4], .int .i64 (Int.tmod (wrap64 (a1_0)) (((rd_T30 l0_0 x5_1).f4).length : Int))] (by rfl) rfl rfl (by (try simp only [List.map_toArray, List.map_cons, List.map_nil]); first | done | rfl | (simp only [List.length_drop, List.length_take]; rfl)) ?_
        with_reducible refine (flow_Next.calls k1 _ _ ((rd_T30 l0_0 x5_1).f0) _ _ ((rd_T30 l0_0 x5_1).f1) ((rd_T30 l0_0 x5_1).f2) ((rd_T30 l0_0 x5_1).f3) _ _ ((rd_T30 l0_0 x5_1).f4) (Int.tmod (wrap64 (a1_0)) (((rd_T30 l0_0 x5_1).f4).length : Int)) t342 _ ?side1 ?side2 ?side3 ?side4 ?side5 ?side6 A22.out).mono ?_
        (case side1 => repeat (first | exact (Kd.C_below HR340_0.out HB.out) | (with_reducible refine Kd.C_alloc ?_ _) | (with_reducible refine Kd.C_drewN ?_ _) | (with_reducible refine Kd.C_drew ?_)))
        (case side2 => exact HC340_0.out)
        (case side3 => repeat (first | exact (Kd.C_below HR340_1.out HB.out) | (with_reducible refine Kd.C_alloc ?_ _) | (with_reducible refine Kd.C_drewN ?_ _) | (with_reducible refine Kd.C_drew ?_)))
        (case side4 => exact HC340_1.out)
        (case side5 => repeat (first | exact (Kd.C_below HR340_4.out HB.out) | (with_reducible refine Kd.C_alloc ?_ _) | (with_reducible refine Kd.C_drewN ?_ _) | (with_reducible refine Kd.C_drew ?_)))
        (case side6 => exact HC340_4.out)
        rintro e w34 ⟨v343, rfl, ho0, hb⟩
        refine ⟨_, rfl, ?_⟩
        have n0_ := Aside0.mk (Kd.R_lower ho0 (below_size (by repeat (first | (with_reducible first | exact HB.out | apply zq5 | apply zq4 | apply zq6 | refine below_set ?_ GE336.out | refine below_set ?_ GE337.out | refine below_set ?_ GE341.out) | exact HB.out))))
        have n1_ := Aside0.mk (blk_below (g := gb336) (o := .cells #[.slice (some ad340) l0_0.length c0_0] 24 (0, 0)) (by (with_reducible repeat (first | refine zq1 ?_ _ | refine zq2 ?_ | refine zq3 ?_ _)); exact BK336.out) hb)
        have n2_ := Aside0.mk (blk_below (g := gb337) (o := .cells #[.int .u8 a1_0, .int .u8 a1_1] 38 (0, 0)) (by (with_reducible repeat (first | refine zq1 ?_ _ | refine zq2 ?_ | refine zq3 ?_ _)); exact BK337.out) hb)
        have n3_ := Aside0.mk (blk_below (g := gb341) (o := .cells #[.slice A340_0 ((rd_T30 l0_0 x5_1).f0).length c340_0, .slice A340_1 ((rd_T30 l0_0 x5_1).f1).length c340_1, .int .i64 ((rd_T30 l0_0 x5_1).f2), .int .i64 ((rd_T30 l0_0 x5_1).f3), .slice A340_4 ((rd_T30 l0_0 x5_1).f4).length c340_4] 30 (0, 0)) (by (with_reducible repeat (first | refine zq1 ?_ _ | refine zq2 ?_ | refine zq3 ?_ _)); exact BK341.out) hb)
        have n4_ := Aside0.mk (below_step (by repeat (first | (with_reducible first | exact HB.out | apply zq5 | apply zq4 | apply zq6 | refine below_set ?_ GE336.out | refine below_set ?_ GE337.out | refine below_set ?_ GE341.out) | exact HB.out)) hb)
        clear BK336
        clear BK337
        clear BK341
        clear HB
        have HO344 := n0_
        have BK336 := n1_
        have BK337 := n2_
        have BK341 := n3_
        have HB := n4_
        clear n0_ n1_ n2_ n3_ n4_
        (try clear hb)
        (try clear hb2)
        (try clear hk)
        (try clear hi)
        (try clear ho0)
        refine hK.out _ _ ⟨(blk_cell BK341.out 0).trans rfl, (blk_cell BK341.out 1).trans rfl, (blk_cell BK341.out 2).trans rfl, (blk_cell BK341.out 3).trans rfl, (blk_cell BK341.out 4).trans rfl⟩ (fun hHeld => ?_)
        clear hK K
        refine norm_ (a' := ?_) ?_ ?_
        rotate_left
        ·show Act.put _ (some 50) _ = _
         simp only [Act.put, List.setIfInBounds_toArray, List.set_cons_zero, List.set_cons_succ, i64_w, i32_w]
         rfl
        refine one_ (i := 5) (N := some 53) #[true, true, true, true, true, true, true, false, false, false, false] rfl rfl (one_of HT_.out (by kernel_rfl)) (by decide) (fun K hK => ?_)
        refine goes_ Try.func21 (by kernel_rfl) rfl #[.agg #[.slice A340_0 ((rd_T30 l0_0 x5_1).f0).length c340_0, .slice A340_1 ((rd_T30 l0_0 x5_1).f1).length c340_1, .int .i64 ((rd_T30 l0_0 x5_1).f2), .int .i64 ((rd_T30 l0_0 x5_1).f3), .slice A340_4 ((rd_T30 l0_0 x5_1).f4).length c340_4], .int .i64 (Int.tmod (wrap64 (a1_1)) (((rd_T30 l0_0 x5_1).f4).length : Int))] (by rfl) rfl rfl (by (try simp only [List.map_toArray, List.map_cons, List.map_nil]); first | done | rfl | (simp only [List.length_drop, List.length_take]; rfl)) ?_
        with_reducible refine (flow_Prev.calls k1 _ _ ((rd_T30 l0_0 x5_1).f0) _ _ ((rd_T30 l0_0 x5_1).f1) ((rd_T30 l0_0 x5_1).f2) ((rd_T30 l0_0 x5_1).f3) _ _ ((rd_T30 l0_0 x5_1).f4) (Int.tmod (wrap64 (a1_1)) (((rd_T30 l0_0 x5_1).f4).length : Int)) t345 _ ?side1 ?side2 ?side3 ?side4 ?side5 ?side6 A23.out).mono ?_
        (case side1 => repeat (first | exact (Kd.C_below HR340_0.out HB.out) | (with_reducible refine Kd.C_alloc ?_ _) | (with_reducible refine Kd.C_drewN ?_ _) | (with_reducible refine Kd.C_drew ?_)))
        (case side2 => exact HC340_0.out)
        (case side3 => repeat (first | exact (Kd.C_below HR340_1.out HB.out) | (with_reducible refine Kd.C_alloc ?_ _) | (with_reducible refine Kd.C_drewN ?_ _) | (with_reducible refine Kd.C_drew ?_)))
        (case side4 => exact HC340_1.out)
        (case side5 => repeat (first | exact (Kd.C_below HR340_4.out HB.out) | (with_reducible refine Kd.C_alloc ?_ _) | (with_reducible refine Kd.C_drewN ?_ _) | (with_reducible refine Kd.C_drew ?_)))
        (case side6 => exact HC340_4.out)
        rintro e w35 ⟨v346, rfl, ho0, hb⟩
        refine ⟨_, rfl, ?_⟩
        have n0_ := Aside0.mk (Kd.R_elder' (by (with_reducible repeat (first | apply Kd.R_alloc | apply Kd.R_drewN | apply Kd.R_drew)); exact HO344.out) (Kd.R_base ho0) hb)
        have n1_ := Aside0.mk (Kd.R_lower (Kd.R_new' ho0 (Kd.R_lt (by (with_reducible repeat (first | apply Kd.R_alloc | apply Kd.R_drewN | apply Kd.R_drew)); exact HO344.out))) (below_size (by repeat (first | (with_reducible first | exact HB.out | apply zq5 | apply zq4 | apply zq6 | refine below_set ?_ GE336.out | refine below_set ?_ GE337.out | refine below_set ?_ GE341.out) | exact HB.out))))
        have n2_ := Aside0.mk (blk_below (g := gb336) (o := .cells #[.slice (some ad340) l0_0.length c0_0] 24 (0, 0)) (by (with_reducible repeat (first | refine zq1 ?_ _ | refine zq2 ?_ | refine zq3 ?_ _)); exact BK336.out) hb)
        have n3_ := Aside0.mk (blk_below (g := gb337) (o := .cells #[.int .u8 a1_0, .int .u8 a1_1] 38 (0, 0)) (by (with_reducible repeat (first | refine zq1 ?_ _ | refine zq2 ?_ | refine zq3 ?_ _)); exact BK337.out) hb)
        have n4_ := Aside0.mk (blk_below (g := gb341) (o := .cells #[.slice A340_0 ((rd_T30 l0_0 x5_1).f0).length c340_0, .slice A340_1 ((rd_T30 l0_0 x5_1).f1).length c340_1, .int .i64 ((rd_T30 l0_0 x5_1).f2), .int .i64 ((rd_T30 l0_0 x5_1).f3), .slice A340_4 ((rd_T30 l0_0 x5_1).f4).length c340_4] 30 (0, 0)) (by (with_reducible repeat (first | refine zq1 ?_ _ | refine zq2 ?_ | refine zq3 ?_ _)); exact BK341.out) hb)
        have n5_ := Aside0.mk (below_step (by repeat (first | (with_reducible first | exact HB.out | apply zq5 | apply zq4 | apply zq6 | refine below_set ?_ GE336.out | refine below_set ?_ GE337.out | refine below_set ?_ GE341.out) | exact HB.out)) hb)
        clear HO344
        clear BK336
        clear BK337
        clear BK341
        clear HB
        have HO344 := n0_
        have HO347 := n1_
        have BK336 := n2_
        have BK337 := n3_
        have BK341 := n4_
        have HB := n5_
        clear n0_ n1_ n2_ n3_ n4_ n5_
        (try clear hb)
        (try clear hb2)
        (try clear hk)
        (try clear hi)
        (try clear ho0)
        refine hK.out _ _ ⟨(blk_cell BK341.out 0).trans rfl, (blk_cell BK341.out 1).trans rfl, (blk_cell BK341.out 2).trans rfl, (blk_cell BK341.out 3).trans rfl, (blk_cell BK341.out 4).trans rfl⟩ (fun hHeld => ?_)
        clear hK K
        refine norm_ (a' := ?_) ?_ ?_
        rotate_left
        ·show Act.put _ (some 53) _ = _
         simp only [Act.put, List.setIfInBounds_toArray, List.set_cons_zero, List.set_cons_succ, i64_w, i32_w]
         rfl
        refine one_ (i := 7) (N := some 55) #[true, true, true, true, true, true, true, true, false, false, false] rfl rfl (one_of HT_.out (by kernel_rfl)) (by decide) (fun K hK => ?_)
        refine goes_ Try.func24 (by kernel_rfl) rfl #[.agg #[.slice A340_0 ((rd_T30 l0_0 x5_1).f0).length c340_0, .slice A340_1 ((rd_T30 l0_0 x5_1).f1).length c340_1, .int .i64 ((rd_T30 l0_0 x5_1).f2), .int .i64 ((rd_T30 l0_0 x5_1).f3), .slice A340_4 ((rd_T30 l0_0 x5_1).f4).length c340_4]] (by rfl) rfl rfl (by (try simp only [List.map_toArray, List.map_cons, List.map_nil]); first | done | rfl | (simp only [List.length_drop, List.length_take]; rfl)) ?_
        with_reducible refine (flow_Edges.calls k1 _ _ ((rd_T30 l0_0 x5_1).f0) _ _ ((rd_T30 l0_0 x5_1).f1) ((rd_T30 l0_0 x5_1).f2) ((rd_T30 l0_0 x5_1).f3) _ _ ((rd_T30 l0_0 x5_1).f4) t348 _ ?side1 ?side2 ?side3 ?side4 ?side5 ?side6 A24.out).mono ?_
        (case side1 => repeat (first | exact (Kd.C_below HR340_0.out HB.out) | (with_reducible refine Kd.C_alloc ?_ _) | (with_reducible refine Kd.C_drewN ?_ _) | (with_reducible refine Kd.C_drew ?_)))
        (case side2 => exact HC340_0.out)
        (case side3 => repeat (first | exact (Kd.C_below HR340_1.out HB.out) | (with_reducible refine Kd.C_alloc ?_ _) | (with_reducible refine Kd.C_drewN ?_ _) | (with_reducible refine Kd.C_drew ?_)))
        (case side4 => exact HC340_1.out)
        (case side5 => repeat (first | exact (Kd.C_below HR340_4.out HB.out) | (with_reducible refine Kd.C_alloc ?_ _) | (with_reducible refine Kd.C_drewN ?_ _) | (with_reducible refine Kd.C_drew ?_)))
        (case side6 => exact HC340_4.out)
        rintro e w36 ⟨v349, rfl, ho0, hb⟩
        refine ⟨_, rfl, ?_⟩
        have n0_ := Aside0.mk (Kd.R_below (by (with_reducible repeat (first | apply Kd.R_alloc | apply Kd.R_drewN | apply Kd.R_drew)); exact HO344.out) hb)
        have n1_ := Aside0.mk (Kd.R_below (by (with_reducible repeat (first | apply Kd.R_alloc | apply Kd.R_drewN | apply Kd.R_drew)); exact HO347.out) hb)
        have n2_ := Aside0.mk (Kd.R_lower ho0 (below_size (by repeat (first | (with_reducible first | exact HB.out | apply zq5 | apply zq4 | apply zq6 | refine below_set ?_ GE336.out | refine below_set ?_ GE337.out | refine below_set ?_ GE341.out) | exact HB.out))))
        have n3_ := Aside0.mk (blk_below (g := gb336) (o := .cells #[.slice (some ad340) l0_0.length c0_0] 24 (0, 0)) (by (with_reducible repeat (first | refine zq1 ?_ _ | refine zq2 ?_ | refine zq3 ?_ _)); exact BK336.out) hb)
        have n4_ := Aside0.mk (blk_below (g := gb337) (o := .cells #[.int .u8 a1_0, .int .u8 a1_1] 38 (0, 0)) (by (with_reducible repeat (first | refine zq1 ?_ _ | refine zq2 ?_ | refine zq3 ?_ _)); exact BK337.out) hb)
        have n5_ := Aside0.mk (blk_below (g := gb341) (o := .cells #[.slice A340_0 ((rd_T30 l0_0 x5_1).f0).length c340_0, .slice A340_1 ((rd_T30 l0_0 x5_1).f1).length c340_1, .int .i64 ((rd_T30 l0_0 x5_1).f2), .int .i64 ((rd_T30 l0_0 x5_1).f3), .slice A340_4 ((rd_T30 l0_0 x5_1).f4).length c340_4] 30 (0, 0)) (by (with_reducible repeat (first | refine zq1 ?_ _ | refine zq2 ?_ | refine zq3 ?_ _)); exact BK341.out) hb)
        have n6_ := Aside0.mk (below_step (by repeat (first | (with_reducible first | exact HB.out | apply zq5 | apply zq4 | apply zq6 | refine below_set ?_ GE336.out | refine below_set ?_ GE337.out | refine below_set ?_ GE341.out) | exact HB.out)) hb)
        clear HO344
        clear HO347
        clear BK336
        clear BK337
        clear BK341
        clear HB
        have HO344 := n0_
        have HO347 := n1_
        have HO350 := n2_
        have BK336 := n3_
        have BK337 := n4_
        have BK341 := n5_
        have HB := n6_
        clear n0_ n1_ n2_ n3_ n4_ n5_ n6_
        (try clear hb)
        (try clear hb2)
        (try clear hk)
        (try clear hi)
        (try clear ho0)
        refine hK.out _ _ ⟨(blk_cell BK341.out 0).trans rfl, (blk_cell BK341.out 1).trans rfl, (blk_cell BK341.out 2).trans rfl, (blk_cell BK341.out 3).trans rfl, (blk_cell BK341.out 4).trans rfl⟩ (fun hHeld => ?_)
        clear hK K
        refine norm_ (a' := ?_) ?_ ?_
        rotate_left
        ·show Act.put _ (some 55) _ = _
         simp only [Act.put, List.setIfInBounds_toArray, List.set_cons_zero, List.set_cons_succ, i64_w, i32_w]
         rfl
        refine pure_ (i := 8) (N := some 9) (v := ?_) (a' := ?_) #[true, true, true, true, true, true, true, true, true, false, false] rfl rfl (any_of HT_.out (by kernel_rfl)) (fun _ _ _ h => h) (Or.inl ⟨by rfl, ?_⟩) ?_ ?_
        rotate_left
        ·intro w'
         go_simp
         with_reducible rfl
        rotate_left
        ·simp only [Act.put, List.setIfInBounds_toArray, List.set_cons_zero, List.set_cons_succ, i64_w, i32_w]
         rfl
        refine pure_ (i := 9) (N := some 10) (v := ?_) (a' := ?_) #[true, true, true, true, true, true, true, true, true, true, false] rfl rfl (any_of HT_.out (by kernel_rfl)) (fun _ _ _ h => h) (Or.inl ⟨by rfl, ?_⟩) ?_ ?_
        rotate_left
        ·intro w'
         go_simp
         with_reducible rfl
        rotate_left
        ·simp only [Act.put, List.setIfInBounds_toArray, List.set_cons_zero, List.set_cons_succ, i64_w, i32_w]
         rfl
        refine pure_ (i := 10) (N := some 11) (v := ?_) (a' := ?_) #[true, true, true, true, true, true, true, true, true, true, true] rfl rfl (any_of HT_.out (by kernel_rfl)) (fun _ _ _ h => h) (Or.inl ⟨by rfl, ?_⟩) ?_ ?_
        rotate_left
        ·intro w'
         go_simp
         with_reducible rfl
        rotate_left
        ·simp only [Act.put, List.setIfInBounds_toArray, List.set_cons_zero, List.set_cons_succ, i64_w, i32_w]
         rfl
        refine done_ (done_of HT_.out (by kernel_rfl)) ?_
        try go_wp2
        go_loopg [12, 15] k1 (fun kq v12 v15 w' => ∃ (x12_2 : Bool) (x15_2 : Int), v12 = .bool x12_2 ∧ v15 = .int .i64 x15_2 ∧ Aside0 (portolanlaw05_FlowBoth.l1 kq x5_1 (Int.tmod (wrap64 (a1_0)) (((rd_T30 l0_0 x5_1).f4).length : Int)) (Int.tmod (wrap64 (a1_1)) (((rd_T30 l0_0 x5_1).f4).length : Int)) t342 t345 t348 x12_2 false false x15_2 l0_0 a1_0 a1_1 = some true) ∧ Aside0 (kq ≤ k1) ∧ Aside0 (Kd.R (Kd.int .i64) 3 w' w.heap.size (fun k_ => some k_ ≠ (v346 : Value).ownBlock) v343 t342) ∧ Aside0 (Kd.R (Kd.int .i64) 3 w' w.heap.size (fun k_ => some k_ ≠ (v343 : Value).ownBlock) v346 t345) ∧ Aside0 (Kd.R k40 40 w' w.heap.size (fun _ => True) v349 t348) ∧ Aside0 (w'.heap[gb336]? = some (.cells #[(.slice (some ad340) l0_0.length c0_0)] 24 (0, 0))) ∧ Aside0 (w'.heap[gb337]? = some (.cells #[.int .u8 a1_0, .int .u8 a1_1] 38 (0, 0))) ∧ Aside0 (w'.heap[gb341]? = some (.cells #[(.slice A340_0 ((rd_T30 l0_0 x5_1).f0).length c340_0), (.slice A340_1 ((rd_T30 l0_0 x5_1).f1).length c340_1), .int .i64 ((rd_T30 l0_0 x5_1).f2), .int .i64 ((rd_T30 l0_0 x5_1).f3), (.slice A340_4 ((rd_T30 l0_0 x5_1).f4).length c340_4)] 30 (0, 0))) ∧ Aside0 (Below w.heap.size w w'))
        case atStart => exact ⟨(false), (0), (by first | rfl | (simp; done) | (simp [*]; done)), (by first | rfl | (simp; done) | (simp [*]; done)), H', ⟨Nat.le_refl _⟩, ⟨by (with_reducible repeat (first | apply Kd.R_alloc | apply Kd.R_drewN | apply Kd.R_drew)); exact Kd.R_mono HO344.out (fun _ hk => hk.2)⟩, ⟨by (with_reducible repeat (first | apply Kd.R_alloc | apply Kd.R_drewN | apply Kd.R_drew)); exact Kd.R_mono HO347.out (fun _ hk => hk.2)⟩, ⟨by (with_reducible repeat (first | apply Kd.R_alloc | apply Kd.R_drewN | apply Kd.R_drew)); exact HO350.out⟩, ⟨by (with_reducible repeat (first | refine zq1 ?_ _ | refine zq2 ?_ | refine zq3 ?_ _)); exact BK336.out⟩, ⟨by (with_reducible repeat (first | refine zq1 ?_ _ | refine zq2 ?_ | refine zq3 ?_ _)); exact BK337.out⟩, ⟨by (with_reducible repeat (first | refine zq1 ?_ _ | refine zq2 ?_ | refine zq3 ?_ _)); exact BK341.out⟩, ⟨by repeat (first | (with_reducible first | exact HB.out | apply zq5 | apply zq4 | apply zq6 | refine below_set ?_ GE336.out | refine below_set ?_ GE337.out | refine below_set ?_ GE341.out) | exact HB.out)⟩⟩
        case round =>
         clear H'
         try clear c1
         try clear c2
         try clear p2
         try clear c3
         try clear p3
         try clear q3
         try clear hx3
         try clear c4
         try clear c6
         try clear p6
         try clear c10
         try clear c16
         try clear c17
         try clear c19
         try clear c19b0
         try clear c20
         try clear c20b0
         try clear c21
         try clear c21b0
         try clear c21b1
         try clear c21b2
         try clear c24
         try clear c25
         try clear c28
         try clear c29
         try clear c34
         try clear p34
         try clear q34
         try clear hx34
         try clear hcz11_0
         try clear hcz17_0
         try clear hcz26_0
         try clear hcz30_0
         try clear hcz30_1
         try clear hcz30_2
         try clear hcz30_3
         try clear hcz30_4
         try clear hfz11_0
         try clear hfz17_0
         try clear hfz26_0
         try clear hfz30_0
         try clear hfz30_1
         try clear hfz30_2
         try clear hfz30_3
         try clear hfz30_4
         try clear hx340_0
         try clear hx340_1
         try clear hx340_2
         try clear hx340_3
         try clear hx340_4
         try clear p2
         try clear p340
         try clear q340
         obtain ⟨x12_2, x15_2, rfl, rfl, HA, HK2, HO_9, HO_10, HO_11, BK336, BK337, BK341, HB⟩ := hrel
         cases gk with
         | zero => exact absurd HA.out (by simp [portolanlaw05_FlowBoth.l1])
         | succ k2 =>
          have H := HA.out
          clear HA
          simp only [portolanlaw05_FlowBoth.l1] at H
          by_cases c37 : x15_2 < (t342.length : Int)
          ·rw [if_pos c37] at H
           have c37b0 : decide (x15_2 < (t342.length : Int)) = true := decide_eq_true c37
           clear c37
           by_cases c38 : x12_2 = true
           ·subst c38
            have H1 : (portolanlaw05_FlowBoth.l1 k2 x5_1 (Int.tmod (wrap64 (a1_0)) (((rd_T30 l0_0 x5_1).f4).length : Int)) (Int.tmod (wrap64 (a1_1)) (((rd_T30 l0_0 x5_1).f4).length : Int)) t342 t345 t348 true false false (wrap64 (x15_2 + 1)) l0_0 a1_0 a1_1) = some true := by first | (rw [if_pos rfl] at H; exact H) | rfl
            clear H
            have H := H1
            clear H1
            have H' := Aside0.mk H
            clear H
            obtain ⟨Ao39, co39, eo39⟩ := Kd.R_slice HO_9.out
            subst eo39
            go_wp2
            go_roundg k2
            case measure => have := HK1.out; have := HK2.out; omega
            case rel => exact ⟨(true), (wrap64 (x15_2 + 1)), (by first | rfl | (simp; done) | (simp [*]; done)), (by first | rfl | (simp; done) | (simp [*]; done)), H', ⟨by have := HK1.out; have := HK2.out; omega⟩, ⟨by (with_reducible repeat (first | apply Kd.R_alloc | apply Kd.R_drewN | apply Kd.R_drew)); exact HO_9.out⟩, ⟨by (with_reducible repeat (first | apply Kd.R_alloc | apply Kd.R_drewN | apply Kd.R_drew)); exact HO_10.out⟩, ⟨by (with_reducible repeat (first | apply Kd.R_alloc | apply Kd.R_drewN | apply Kd.R_drew)); exact HO_11.out⟩, ⟨by (with_reducible repeat (first | refine zq1 ?_ _ | refine zq2 ?_ | refine zq3 ?_ _)); exact BK336.out⟩, ⟨by (with_reducible repeat (first | refine zq1 ?_ _ | refine zq2 ?_ | refine zq3 ?_ _)); exact BK337.out⟩, ⟨by (with_reducible repeat (first | refine zq1 ?_ _ | refine zq2 ?_ | refine zq3 ?_ _)); exact BK341.out⟩, ⟨by repeat (first | (with_reducible first | exact HB.out | apply zq5 | apply zq4 | apply zq6 | refine below_set ?_ GE336.out | refine below_set ?_ GE337.out | refine below_set ?_ GE341.out) | exact HB.out)⟩⟩
           ·replace c38 := Bool.eq_false_iff.mpr c38
            subst c38
            have H1 : (if 0 ≤ x15_2 then (portolanlaw05_FlowBoth.l1 k2 x5_1 (Int.tmod (wrap64 (a1_0)) (((rd_T30 l0_0 x5_1).f4).length : Int)) (Int.tmod (wrap64 (a1_1)) (((rd_T30 l0_0 x5_1).f4).length : Int)) t342 t345 t348 ((rd t342 x15_2) == (Int.tmod (wrap64 (a1_1)) (((rd_T30 l0_0 x5_1).f4).length : Int))) false false (wrap64 (x15_2 + 1)) l0_0 a1_0 a1_1) else (none)) = some true := by first | (rw [if_neg (show ¬ (false = true) by decide)] at H; exact H) | rfl
            clear H
            have H := H1
            clear H1
            by_cases c40 : 0 ≤ x15_2
            ·rw [if_pos c40] at H
             have c40b0 : decide (0 ≤ x15_2) = true := decide_eq_true c40
             clear c40
             have H' := Aside0.mk H
             clear H
             obtain ⟨Ao41, co41, eo41⟩ := Kd.R_slice HO_9.out
             subst eo41
             have p351 : 0 ≤ (x15_2 : Int) := of_decide_eq_true (by first | (with_reducible assumption) | assumption)
             have q351 : x15_2 < (t342.length : Int) := of_decide_eq_true (by first | (with_reducible assumption) | assumption)
             obtain ⟨ad351, e351, hx351_0⟩ := Kd.at_int (Kd.R_reads' HO_9.out).2.2 x15_2 p351 q351
             cases e351
             replace p351 := eq_true p351
             replace q351 := eq_true q351
             go_wp2
             go_roundg k2
             case measure => have := HK1.out; have := HK2.out; omega
             case rel => exact ⟨(((rd t342 x15_2) == (Int.tmod (wrap64 (a1_1)) (((rd_T30 l0_0 x5_1).f4).length : Int)))), (wrap64 (x15_2 + 1)), (by first | rfl | (simp; done) | (simp [*]; done)), (by first | rfl | (simp; done) | (simp [*]; done)), H', ⟨by have := HK1.out; have := HK2.out; omega⟩, ⟨by (with_reducible repeat (first | apply Kd.R_alloc | apply Kd.R_drewN | apply Kd.R_drew)); exact HO_9.out⟩, ⟨by (with_reducible repeat (first | apply Kd.R_alloc | apply Kd.R_drewN | apply Kd.R_drew)); exact HO_10.out⟩, ⟨by (with_reducible repeat (first | apply Kd.R_alloc | apply Kd.R_drewN | apply Kd.R_drew)); exact HO_11.out⟩, ⟨by (with_reducible repeat (first | refine zq1 ?_ _ | refine zq2 ?_ | refine zq3 ?_ _)); exact BK336.out⟩, ⟨by (with_reducible repeat (first | refine zq1 ?_ _ | refine zq2 ?_ | refine zq3 ?_ _)); exact BK337.out⟩, ⟨by (with_reducible repeat (first | refine zq1 ?_ _ | refine zq2 ?_ | refine zq3 ?_ _)); exact BK341.out⟩, ⟨by repeat (first | (with_reducible first | exact HB.out | apply zq5 | apply zq4 | apply zq6 | refine below_set ?_ GE336.out | refine below_set ?_ GE337.out | refine below_set ?_ GE341.out) | exact HB.out)⟩⟩
            ·rw [if_neg c40] at H
             exact absurd H (by simp)
          ·rw [if_neg c37] at H
           have c37b0 : decide (x15_2 < (t342.length : Int)) = false := decide_eq_false c37
           clear c37
           have H' := Aside0.mk H
           clear H
           obtain ⟨Ao42, co42, eo42⟩ := Kd.R_slice HO_9.out
           subst eo42
           go_wp2
           go_loopg [13, 16] k2 (fun kq v13 v16 w' => ∃ (x13_3 : Bool) (x16_3 : Int), v13 = .bool x13_3 ∧ v16 = .int .i64 x16_3 ∧ Aside0 (portolanlaw05_FlowBoth.l2 kq x5_1 (Int.tmod (wrap64 (a1_0)) (((rd_T30 l0_0 x5_1).f4).length : Int)) (Int.tmod (wrap64 (a1_1)) (((rd_T30 l0_0 x5_1).f4).length : Int)) t345 t348 x12_2 x13_3 false x16_3 l0_0 a1_0 a1_1 = some true) ∧ Aside0 (kq ≤ k2) ∧ Aside0 (Kd.R (Kd.int .i64) 3 w' w.heap.size (fun _ => True) v346 t345) ∧ Aside0 (Kd.R k40 40 w' w.heap.size (fun _ => True) v349 t348) ∧ Aside0 (w'.heap[gb336]? = some (.cells #[(.slice (some ad340) l0_0.length c0_0)] 24 (0, 0))) ∧ Aside0 (w'.heap[gb337]? = some (.cells #[.int .u8 a1_0, .int .u8 a1_1] 38 (0, 0))) ∧ Aside0 (w'.heap[gb341]? = some (.cells #[(.slice A340_0 ((rd_T30 l0_0 x5_1).f0).length c340_0), (.slice A340_1 ((rd_T30 l0_0 x5_1).f1).length c340_1), .int .i64 ((rd_T30 l0_0 x5_1).f2), .int .i64 ((rd_T30 l0_0 x5_1).f3), (.slice A340_4 ((rd_T30 l0_0 x5_1).f4).length c340_4)] 30 (0, 0))) ∧ Aside0 (Below w.heap.size w w'))
           case atStart => exact ⟨(false), (0), (by first | rfl | (simp; done) | (simp [*]; done)), (by first | rfl | (simp; done) | (simp [*]; done)), H', ⟨Nat.le_refl _⟩, ⟨by (with_reducible repeat (first | apply Kd.R_alloc | apply Kd.R_drewN | apply Kd.R_drew)); exact Kd.R_mono HO_10.out (fun _ hk => trivial)⟩, ⟨by (with_reducible repeat (first | apply Kd.R_alloc | apply Kd.R_drewN | apply Kd.R_drew)); exact HO_11.out⟩, ⟨by (with_reducible repeat (first | refine zq1 ?_ _ | refine zq2 ?_ | refine zq3 ?_ _)); exact BK336.out⟩, ⟨by (with_reducible repeat (first | refine zq1 ?_ _ | refine zq2 ?_ | refine zq3 ?_ _)); exact BK337.out⟩, ⟨by (with_reducible repeat (first | refine zq1 ?_ _ | refine zq2 ?_ | refine zq3 ?_ _)); exact BK341.out⟩, ⟨by repeat (first | (with_reducible first | exact HB.out | apply zq5 | apply zq4 | apply zq6 | refine below_set ?_ GE336.out | refine below_set ?_ GE337.out | refine below_set ?_ GE341.out) | exact HB.out)⟩⟩
           case round =>
            clear H'
            try clear c1
            try clear c2
            try clear p2
            try clear c3
            try clear p3
            try clear q3
            try clear hx3
            try clear c4
            try clear c6
            try clear p6
            try clear c10
            try clear c16
            try clear c17
            try clear c19
            try clear c19b0
            try clear c20
            try clear c20b0
            try clear c21
            try clear c21b0
            try clear c21b1
            try clear c21b2
            try clear c24
            try clear c25
            try clear c28
            try clear c29
            try clear c34
            try clear p34
            try clear q34
            try clear hx34
            try clear p35
            try clear q35
            try clear hx35
            try clear c37
            try clear c37b0
            try clear c38
            try clear c40
            try clear c40b0
            try clear hcz11_0
            try clear hcz17_0
            try clear hcz26_0
            try clear hcz30_0
            try clear hcz30_1
            try clear hcz30_2
            try clear hcz30_3
            try clear hcz30_4
            try clear hfz11_0
            try clear hfz17_0
            try clear hfz26_0
            try clear hfz30_0
            try clear hfz30_1
            try clear hfz30_2
            try clear hfz30_3
            try clear hfz30_4
            try clear hx340_0
            try clear hx340_1
            try clear hx340_2
            try clear hx340_3
            try clear hx340_4
            try clear hx351_0
            try clear p2
            try clear p3
            try clear p34
            try clear p340
            try clear p351
            try clear p6
            try clear q3
            try clear q34
            try clear q340
            try clear q351
            obtain ⟨x13_3, x16_3, rfl, rfl, HA, HK3, HO_10, HO_11, BK336, BK337, BK341, HB⟩ := hrel
            cases gk with
            | zero => exact absurd HA.out (by simp [portolanlaw05_FlowBoth.l2])
            | succ k3 =>
             have H := HA.out
             clear HA
             simp only [portolanlaw05_FlowBoth.l2] at H
             by_cases c43 : x16_3 < (t345.length : Int)
             ·rw [if_pos c43] at H
              have c43b0 : decide (x16_3 < (t345.length : Int)) = true := decide_eq_true c43
              clear c43
              by_cases c44 : x13_3 = true
              ·subst c44
               have H1 : (portolanlaw05_FlowBoth.l2 k3 x5_1 (Int.tmod (wrap64 (a1_0)) (((rd_T30 l0_0 x5_1).f4).length : Int)) (Int.tmod (wrap64 (a1_1)) (((rd_T30 l0_0 x5_1).f4).length : Int)) t345 t348 x12_2 true false (wrap64 (x16_3 + 1)) l0_0 a1_0 a1_1) = some true := by first | (rw [if_pos rfl] at H; exact H) | rfl
               clear H
               have H := H1
               clear H1
               have H' := Aside0.mk H
               clear H
               obtain ⟨Ao45, co45, eo45⟩ := Kd.R_slice HO_10.out
               subst eo45
               go_wp2
               go_roundg k3
               case measure => have := HK1.out; have := HK2.out; have := HK3.out; omega
               case rel => exact ⟨(true), (wrap64 (x16_3 + 1)), (by first | rfl | (simp; done) | (simp [*]; done)), (by first | rfl | (simp; done) | (simp [*]; done)), H', ⟨by have := HK1.out; have := HK2.out; have := HK3.out; omega⟩, ⟨by (with_reducible repeat (first | apply Kd.R_alloc | apply Kd.R_drewN | apply Kd.R_drew)); exact HO_10.out⟩, ⟨by (with_reducible repeat (first | apply Kd.R_alloc | apply Kd.R_drewN | apply Kd.R_drew)); exact HO_11.out⟩, ⟨by (with_reducible repeat (first | refine zq1 ?_ _ | refine zq2 ?_ | refine zq3 ?_ _)); exact BK336.out⟩, ⟨by (with_reducible repeat (first | refine zq1 ?_ _ | refine zq2 ?_ | refine zq3 ?_ _)); exact BK337.out⟩, ⟨by (with_reducible repeat (first | refine zq1 ?_ _ | refine zq2 ?_ | refine zq3 ?_ _)); exact BK341.out⟩, ⟨by repeat (first | (with_reducible first | exact HB.out | apply zq5 | apply zq4 | apply zq6 | refine below_set ?_ GE336.out | refine below_set ?_ GE337.out | refine below_set ?_ GE341.out) | exact HB.out)⟩⟩
              ·replace c44 := Bool.eq_false_iff.mpr c44
               subst c44
               have H1 : (if 0 ≤ x16_3 then (portolanlaw05_FlowBoth.l2 k3 x5_1 (Int.tmod (wrap64 (a1_0)) (((rd_T30 l0_0 x5_1).f4).length : Int)) (Int.tmod (wrap64 (a1_1)) (((rd_T30 l0_0 x5_1).f4).length : Int)) t345 t348 x12_2 ((rd t345 x16_3) == (Int.tmod (wrap64 (a1_0)) (((rd_T30 l0_0 x5_1).f4).length : Int))) false (wrap64 (x16_3 + 1)) l0_0 a1_0 a1_1) else (none)) = some true := by first | (rw [if_neg (show ¬ (false = true) by decide)] at H; exact H) | rfl
               clear H
               have H := H1
               clear H1
               by_cases c46 : 0 ≤ x16_3
               ·rw [if_pos c46] at H
                have c46b0 : decide (0 ≤ x16_3) = true := decide_eq_true c46
                clear c46
                have H' := Aside0.mk H
                clear H
                obtain ⟨Ao47, co47, eo47⟩ := Kd.R_slice HO_10.out
                subst eo47
                have p352 : 0 ≤ (x16_3 : Int) := of_decide_eq_true (by first | (with_reducible assumption) | assumption)
                have q352 : x16_3 < (t345.length : Int) := of_decide_eq_true (by first | (with_reducible assumption) | assumption)
                obtain ⟨ad352, e352, hx352_0⟩ := Kd.at_int (Kd.R_reads' HO_10.out).2.2 x16_3 p352 q352
                cases e352
                replace p352 := eq_true p352
                replace q352 := eq_true q352
                go_wp2
                go_roundg k3
                case measure => have := HK1.out; have := HK2.out; have := HK3.out; omega
                case rel => exact ⟨(((rd t345 x16_3) == (Int.tmod (wrap64 (a1_0)) (((rd_T30 l0_0 x5_1).f4).length : Int)))), (wrap64 (x16_3 + 1)), (by first | rfl | (simp; done) | (simp [*]; done)), (by first | rfl | (simp; done) | (simp [*]; done)), H', ⟨by have := HK1.out; have := HK2.out; have := HK3.out; omega⟩, ⟨by (with_reducible repeat (first | apply Kd.R_alloc | apply Kd.R_drewN | apply Kd.R_drew)); exact HO_10.out⟩, ⟨by (with_reducible repeat (first | apply Kd.R_alloc | apply Kd.R_drewN | apply Kd.R_drew)); exact HO_11.out⟩, ⟨by (with_reducible repeat (first | refine zq1 ?_ _ | refine zq2 ?_ | refine zq3 ?_ _)); exact BK336.out⟩, ⟨by (with_reducible repeat (first | refine zq1 ?_ _ | refine zq2 ?_ | refine zq3 ?_ _)); exact BK337.out⟩, ⟨by (with_reducible repeat (first | refine zq1 ?_ _ | refine zq2 ?_ | refine zq3 ?_ _)); exact BK341.out⟩, ⟨by repeat (first | (with_reducible first | exact HB.out | apply zq5 | apply zq4 | apply zq6 | refine below_set ?_ GE336.out | refine below_set ?_ GE337.out | refine below_set ?_ GE341.out) | exact HB.out)⟩⟩
               ·rw [if_neg c46] at H
                exact absurd H (by simp)
             ·rw [if_neg c43] at H
              have c43b0 : decide (x16_3 < (t345.length : Int)) = false := decide_eq_false c43
              clear c43
              have H' := Aside0.mk H
              clear H
              obtain ⟨Ao48, co48, eo48⟩ := Kd.R_slice HO_10.out
              subst eo48
              go_wp2
              go_loopg [14, 17] k3 (fun kq v14 v17 w' => ∃ (x14_4 : Bool) (x17_4 : Int), v14 = .bool x14_4 ∧ v17 = .int .i64 x17_4 ∧ Aside0 (portolanlaw05_FlowBoth.l3 kq x5_1 (Int.tmod (wrap64 (a1_0)) (((rd_T30 l0_0 x5_1).f4).length : Int)) (Int.tmod (wrap64 (a1_1)) (((rd_T30 l0_0 x5_1).f4).length : Int)) t348 x12_2 x13_3 x14_4 x17_4 l0_0 a1_0 a1_1 = some true) ∧ Aside0 (kq ≤ k3) ∧ Aside0 (Kd.R k40 40 w' w.heap.size (fun _ => True) v349 t348) ∧ Aside0 (w'.heap[gb336]? = some (.cells #[(.slice (some ad340) l0_0.length c0_0)] 24 (0, 0))) ∧ Aside0 (w'.heap[gb337]? = some (.cells #[.int .u8 a1_0, .int .u8 a1_1] 38 (0, 0))) ∧ Aside0 (w'.heap[gb341]? = some (.cells #[(.slice A340_0 ((rd_T30 l0_0 x5_1).f0).length c340_0), (.slice A340_1 ((rd_T30 l0_0 x5_1).f1).length c340_1), .int .i64 ((rd_T30 l0_0 x5_1).f2), .int .i64 ((rd_T30 l0_0 x5_1).f3), (.slice A340_4 ((rd_T30 l0_0 x5_1).f4).length c340_4)] 30 (0, 0))) ∧ Aside0 (Below w.heap.size w w'))
              case atStart => exact ⟨(false), (0), (by first | rfl | (simp; done) | (simp [*]; done)), (by first | rfl | (simp; done) | (simp [*]; done)), H', ⟨Nat.le_refl _⟩, ⟨by (with_reducible repeat (first | apply Kd.R_alloc | apply Kd.R_drewN | apply Kd.R_drew)); exact HO_11.out⟩, ⟨by (with_reducible repeat (first | refine zq1 ?_ _ | refine zq2 ?_ | refine zq3 ?_ _)); exact BK336.out⟩, ⟨by (with_reducible repeat (first | refine zq1 ?_ _ | refine zq2 ?_ | refine zq3 ?_ _)); exact BK337.out⟩, ⟨by (with_reducible repeat (first | refine zq1 ?_ _ | refine zq2 ?_ | refine zq3 ?_ _)); exact BK341.out⟩, ⟨by repeat (first | (with_reducible first | exact HB.out | apply zq5 | apply zq4 | apply zq6 | refine below_set ?_ GE336.out | refine below_set ?_ GE337.out | refine below_set ?_ GE341.out) | exact HB.out)⟩⟩
              case round =>
               clear H'
               try clear c1
               try clear c2
               try clear p2
               try clear c3
               try clear p3
               try clear q3
               try clear hx3
               try clear c4
               try clear c6
               try clear p6
               try clear c10
               try clear c16
               try clear c17
               try clear c19
               try clear c19b0
               try clear c20
               try clear c20b0
               try clear c21
               try clear c21b0
               try clear c21b1
               try clear c21b2
               try clear c24
               try clear c25
               try clear c28
               try clear c29
               try clear c34
               try clear p34
               try clear q34
               try clear hx34
               try clear p35
               try clear q35
               try clear hx35
               try clear c37
               try clear c37b0
               try clear c38
               try clear c40
               try clear c40b0
               try clear c43
               try clear c43b0
               try clear c44
               try clear c46
               try clear c46b0
               try clear hcz11_0
               try clear hcz17_0
               try clear hcz26_0
               try clear hcz30_0
               try clear hcz30_1
               try clear hcz30_2
               try clear hcz30_3
               try clear hcz30_4
               try clear hfz11_0
               try clear hfz17_0
               try clear hfz26_0
               try clear hfz30_0
               try clear hfz30_1
               try clear hfz30_2
               try clear hfz30_3
               try clear hfz30_4
               try clear hx340_0
               try clear hx340_1
               try clear hx340_2
               try clear hx340_3
               try clear hx340_4
               try clear hx351_0
               try clear hx352_0
               try clear p2
               try clear p3
               try clear p34
               try clear p340
               try clear p35
               try clear p351
               try clear p352
               try clear p6
               try clear q3
               try clear q34
               try clear q340
               try clear q35
               try clear q351
               try clear q352
               obtain ⟨x14_4, x17_4, rfl, rfl, HA, HK4, HO_11, BK336, BK337, BK341, HB⟩ := hrel
               cases gk with
               | zero => exact absurd HA.out (by simp [portolanlaw05_FlowBoth.l3])
               | succ k4 =>
                have H := HA.out
                clear HA
                simp only [portolanlaw05_FlowBoth.l3] at H
                by_cases c49 : x17_4 < (t348.length : Int)
                ·rw [if_pos c49] at H
                 have c49b0 : decide (x17_4 < (t348.length : Int)) = true := decide_eq_true c49
                 clear c49
                 by_cases c50 : x14_4 = true
                 ·subst c50
                  have H1 : (portolanlaw05_FlowBoth.l3 k4 x5_1 (Int.tmod (wrap64 (a1_0)) (((rd_T30 l0_0 x5_1).f4).length : Int)) (Int.tmod (wrap64 (a1_1)) (((rd_T30 l0_0 x5_1).f4).length : Int)) t348 x12_2 x13_3 true (wrap64 (x17_4 + 1)) l0_0 a1_0 a1_1) = some true := by first | (rw [if_pos rfl] at H; exact H) | rfl
                  clear H
                  have H := H1
                  clear H1
                  have H' := Aside0.mk H
                  clear H
                  obtain ⟨Ao51, co51, eo51⟩ := Kd.R_slice HO_11.out
                  subst eo51
                  go_wp2
                  go_roundg k4
                  case measure => have := HK1.out; have := HK2.out; have := HK3.out; have := HK4.out; omega
                  case rel => exact ⟨(true), (wrap64 (x17_4 + 1)), (by first | rfl | (simp; done) | (simp [*]; done)), (by first | rfl | (simp; done) | (simp [*]; done)), H', ⟨by have := HK1.out; have := HK2.out; have := HK3.out; have := HK4.out; omega⟩, ⟨by (with_reducible repeat (first | apply Kd.R_alloc | apply Kd.R_drewN | apply Kd.R_drew)); exact HO_11.out⟩, ⟨by (with_reducible repeat (first | refine zq1 ?_ _ | refine zq2 ?_ | refine zq3 ?_ _)); exact BK336.out⟩, ⟨by (with_reducible repeat (first | refine zq1 ?_ _ | refine zq2 ?_ | refine zq3 ?_ _)); exact BK337.out⟩, ⟨by (with_reducible repeat (first | refine zq1 ?_ _ | refine zq2 ?_ | refine zq3 ?_ _)); exact BK341.out⟩, ⟨by repeat (first | (with_reducible first | exact HB.out | apply zq5 | apply zq4 | apply zq6 | refine below_set ?_ GE336.out | refine below_set ?_ GE337.out | refine below_set ?_ GE341.out) | exact HB.out)⟩⟩
                 ·replace c50 := Bool.eq_false_iff.mpr c50
                  subst c50
                  have H1 : (if 0 ≤ x17_4 then (portolanlaw05_FlowBoth.l3 k4 x5_1 (Int.tmod (wrap64 (a1_0)) (((rd_T30 l0_0 x5_1).f4).length : Int)) (Int.tmod (wrap64 (a1_1)) (((rd_T30 l0_0 x5_1).f4).length : Int)) t348 x12_2 x13_3 (((rd_T40 t348 x17_4).f0) == (Int.tmod (wrap64 (a1_0)) (((rd_T30 l0_0 x5_1).f4).length : Int)) && (((rd_T40 t348 x17_4).f1) == (Int.tmod (wrap64 (a1_1)) (((rd_T30 l0_0 x5_1).f4).length : Int)))) (wrap64 (x17_4 + 1)) l0_0 a1_0 a1_1) else (none)) = some true := by first | (rw [if_neg (show ¬ (false = true) by decide)] at H; exact H) | rfl
                  clear H
                  have H := H1
                  clear H1
                  by_cases c52 : 0 ≤ x17_4
                  ·rw [if_pos c52] at H
                   have c52b0 : decide (0 ≤ x17_4) = true := decide_eq_true c52
                   clear c52
                   have H' := Aside0.mk H
                   clear H
                   obtain ⟨Ao53, co53, eo53⟩ := Kd.R_slice HO_11.out
                   subst eo53
                   have p353 : 0 ≤ (x17_4 : Int) := of_decide_eq_true (by first | (with_reducible assumption) | assumption)
                   have q353 : x17_4 < (t348.length : Int) := of_decide_eq_true (by first | (with_reducible assumption) | assumption)
                   obtain ⟨ad353, e353, hx353_0, hx353_1⟩ := at_T40 (Kd.R_reads' HO_11.out).2.2 x17_4 p353 q353
                   cases e353
                   replace p353 := eq_true p353
                   replace q353 := eq_true q353
                   go_wp2
                   go_roundg k4
                   case measure => have := HK1.out; have := HK2.out; have := HK3.out; have := HK4.out; omega
                   case rel => exact ⟨((((rd_T40 t348 x17_4).f0) == (Int.tmod (wrap64 (a1_0)) (((rd_T30 l0_0 x5_1).f4).length : Int)) && (((rd_T40 t348 x17_4).f1) == (Int.tmod (wrap64 (a1_1)) (((rd_T30 l0_0 x5_1).f4).length : Int))))), (wrap64 (x17_4 + 1)), (by first | rfl | (simp; done) | (simp [*]; done)), (by first | rfl | (simp; done) | (simp [*]; done)), H', ⟨by have := HK1.out; have := HK2.out; have := HK3.out; have := HK4.out; omega⟩, ⟨by (with_reducible repeat (first | apply Kd.R_alloc | apply Kd.R_drewN | apply Kd.R_drew)); exact HO_11.out⟩, ⟨by (with_reducible repeat (first | refine zq1 ?_ _ | refine zq2 ?_ | refine zq3 ?_ _)); exact BK336.out⟩, ⟨by (with_reducible repeat (first | refine zq1 ?_ _ | refine zq2 ?_ | refine zq3 ?_ _)); exact BK337.out⟩, ⟨by (with_reducible repeat (first | refine zq1 ?_ _ | refine zq2 ?_ | refine zq3 ?_ _)); exact BK341.out⟩, ⟨by repeat (first | (with_reducible first | exact HB.out | apply zq5 | apply zq4 | apply zq6 | refine below_set ?_ GE336.out | refine below_set ?_ GE337.out | refine below_set ?_ GE341.out) | exact HB.out)⟩⟩
                  ·rw [if_neg c52] at H
                   exact absurd H (by simp)
                ·rw [if_neg c49] at H
                 have c49b0 : decide (x17_4 < (t348.length : Int)) = false := decide_eq_false c49
                 clear c49
                 by_cases c54 : (x12_2 != x13_3) = true
                 ·rw [if_pos c54] at H
                  have c54b0 : (x12_2 != x13_3) = true := c54
                  (try (have c54b1 : decide (x12_2 = x13_3) = false := by simpa using c54))
                  (try (have c54b2 : (x12_2 == x13_3) = false := by simpa using c54))
                  (try (have c54b3 : ¬ (x12_2 = x13_3) := by simpa using c54))
                  clear c54
                  exact absurd (Option.some.inj H) (by decide)
                 ·rw [if_neg c54] at H
                  have c54b0 : (x12_2 != x13_3) = false := by simpa using c54
                  (try (have c54b1 : decide (x12_2 = x13_3) = true := by simpa using c54))
                  (try (have c54b2 : (x12_2 == x13_3) = true := by simpa using c54))
                  clear c54
                  by_cases c55 : (x13_3 != x14_4) = true
                  ·rw [if_pos c55] at H
                   have c55b0 : (x13_3 != x14_4) = true := c55
                   (try (have c55b1 : decide (x13_3 = x14_4) = false := by simpa using c55))
                   (try (have c55b2 : (x13_3 == x14_4) = false := by simpa using c55))
                   (try (have c55b3 : ¬ (x13_3 = x14_4) := by simpa using c55))
                   clear c55
                   exact absurd (Option.some.inj H) (by decide)
                  ·rw [if_neg c55] at H
                   have c55b0 : (x13_3 != x14_4) = false := by simpa using c55
                   (try (have c55b1 : decide (x13_3 = x14_4) = true := by simpa using c55))
                   (try (have c55b2 : (x13_3 == x14_4) = true := by simpa using c55))
                   clear c55
                   have H' := Aside0.mk H
                   clear H
                   obtain ⟨Ao56, co56, eo56⟩ := Kd.R_slice HO_11.out
                   subst eo56
                   go_wp2
                   go_roundg k4
                   case measure => have := HK1.out; have := HK2.out; have := HK3.out; have := HK4.out; omega
                   case rel => exact ⟨(wrap64 (x5_1 + 1)), (by first | rfl | (simp; done) | (simp [*]; done)), H', ⟨by have := HK1.out; have := HK2.out; have := HK3.out; have := HK4.out; omega⟩, ⟨by (with_reducible repeat (first | refine zq1 ?_ _ | refine zq2 ?_ | refine zq3 ?_ _)); exact BK336.out⟩, ⟨by (with_reducible repeat (first | refine zq1 ?_ _ | refine zq2 ?_ | refine zq3 ?_ _)); exact BK337.out⟩, ⟨by repeat (first | (with_reducible first | exact HB.out | apply zq5 | apply zq4 | apply zq6 | refine below_set ?_ GE336.out | refine below_set ?_ GE337.out | refine below_set ?_ GE341.out) | exact HB.out)⟩⟩
      ·rw [if_neg c20] at H
       exact absurd H (by simp)
     ·rw [if_neg c19] at H
      have c19b0 : decide (x5_1 < (l0_0.length : Int)) = false := decide_eq_false c19
      clear c19
      clear H
      have hnb57 := NB336_337.out
      have hnc57 := NB337_336.out
      have hcz58_0 : wr.cell? ⟨gb336, 0, none⟩ = some (.slice A0_0 l0_0.length c0_0) := (blk_cell BK336.out 0).trans rfl
      have hfz58_0 := blk_frozen BK336.out 0
      go_wp2
      go_ret
      exact ⟨by first | rfl | (simp [errW_none, errW_some] <;> rfl) | (simp [*, errW_none, errW_some] <;> rfl), by repeat (first | (with_reducible first | exact HB.out | apply zq5 | apply zq4 | apply zq6 | refine below_set ?_ GE336.out | refine below_set ?_ GE337.out) | exact HB.out)⟩
 ·replace c4 := Bool.eq_false_iff.mpr c4
  subst c4
  have H1 : (some false) = some true := by first | (rw [if_neg (show ¬ (false = true) by decide)] at H; exact H) | rfl
  clear H
  have H := H1
  clear H1
  exact absurd (Option.some.inj H) (by decide)

end Go.Proofs.Ytcknmcfomkbenaa.PF
