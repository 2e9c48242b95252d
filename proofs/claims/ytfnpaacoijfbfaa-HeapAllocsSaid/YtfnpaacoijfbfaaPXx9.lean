-- written by xp.py (ours) over the translation
import Derived.Test.YtfnpaacoijfbfaaPXx0
import Derived.Test.YtfnpaacoijfbfaaPXx6
namespace Go.Proofs.Ytfnpaacoijfbfaa.PX
open Go.RowKit Go.Proofs.YtfnpaacoijfbfaaW.PrintWords Go.Proofs.YtfnpaacoijfbfaaW.PrintLast Go.Proofs.YtfnpaacoijfbfaaW.PrintMore
attribute [local go_sem] max2_int min2_int max_two min_two max_three min_three max_four min_four   -- for this text's walks alone
set_option linter.unusedVariables false
set_option linter.unusedSimpArgs false

/-! ### portolanref09_Reach: function 17 -/
mutual
def portolanref09_Reach.l0 : Nat → List Int → List Bool → Int → List (S47) → Option (List Int)
 | 0, _, _, _, _ => none
 | k + 1, x1, x5, x6, x262000 => if x6 < (x1.length : Int) then (if 0 ≤ x6 then (if (rd x1 x6) ≥ 0 then (if (rd x1 x6) < (x5.length : Int) then (if 0 ≤ (rd x1 x6) then (portolanref09_Reach.l0 k x1 (x5.set ((rd x1 x6) : Int).toNat true) (wrap64 (x6 + 1)) x262000) else (none)) else (portolanref09_Reach.l0 k x1 x5 (wrap64 (x6 + 1)) x262000)) else (portolanref09_Reach.l0 k x1 x5 (wrap64 (x6 + 1)) x262000)) else (none)) else (if 0 < (x5.length : Int) then (portolanref09_Reach.l1 k (x5.set (0 : Int).toNat false) 0 x262000) else (none))
def portolanref09_Reach.l1 : Nat → List Bool → Int → List (S47) → Option (List Int)
 | 0, _, _, _ => none
 | k + 1, x5, x7, x262000 => if x7 < (x262000.length : Int) then (portolanref09_Reach.l2 k x5 x7 0 x262000) else (portolanref09_Reach.l4 k x5 ([] : List Int) 1)
def portolanref09_Reach.l2 : Nat → List Bool → Int → Int → List (S47) → Option (List Int)
 | 0, _, _, _, _ => none
 | k + 1, x5, x7, x8, x262000 => if x8 < (x262000.length : Int) then (portolanref09_Reach.l3 k x5 x7 x8 0 x262000) else (portolanref09_Reach.l1 k x5 (wrap64 (x7 + 1)) x262000)
def portolanref09_Reach.l3 : Nat → List Bool → Int → Int → Int → List (S47) → Option (List Int)
 | 0, _, _, _, _, _ => none
 | k + 1, x5, x7, x8, x9, x262000 => if 0 ≤ x8 then (if x8 < (x262000.length : Int) then (if x9 < (((rd_T47 x262000 x8).f0).length : Int) then (if 0 ≤ (wrap64 (x8 + 1)) then (if (wrap64 (x8 + 1)) < (x5.length : Int) then (portolanref09_Reach.j4 k x5 x7 x8 x9 (rdOf false x5 (wrap64 (x8 + 1))) x262000) else (none)) else (none)) else (portolanref09_Reach.j4 k x5 x7 x8 x9 false x262000)) else (none)) else (none)
def portolanref09_Reach.j4 : Nat → List Bool → Int → Int → Int → Bool → List (S47) → Option (List Int)
 | 0, _, _, _, _, _, _ => none
 | k + 1, x5, x7, x8, x9, x77, x262000 => if x77 = true then (if 0 ≤ x8 then (if x8 < (x262000.length : Int) then (if 0 ≤ x9 then (if x9 < (((rd_T47 x262000 x8).f0).length : Int) then (if (rd ((rd_T47 x262000 x8).f0) x9) > 0 then (if 0 ≤ (rd ((rd_T47 x262000 x8).f0) x9) then (if (rd ((rd_T47 x262000 x8).f0) x9) < (x5.length : Int) then (portolanref09_Reach.l3 k (x5.set ((rd ((rd_T47 x262000 x8).f0) x9) : Int).toNat true) x7 x8 (wrap64 (x9 + 1)) x262000) else (none)) else (none)) else (portolanref09_Reach.l3 k x5 x7 x8 (wrap64 (x9 + 1)) x262000)) else (none)) else (none)) else (none)) else (none)) else (portolanref09_Reach.l2 k x5 x7 (wrap64 (x8 + 1)) x262000)
def portolanref09_Reach.l4 : Nat → List Bool → List Int → Int → Option (List Int)
 | 0, _, _, _ => none
 | k + 1, x5, x10, x11 => if x11 < (x5.length : Int) then (if 0 ≤ x11 then (if rdOf false x5 x11 = true then (if x10.length < 17592186044416 then (portolanref09_Reach.l4 k x5 (x10 ++ [x11]) (wrap64 (x11 + 1))) else (none)) else (portolanref09_Reach.l4 k x5 x10 (wrap64 (x11 + 1)))) else (none)) else (some x10)
end
def portolanref09_Reach.f (k : Nat) (l0_0 : List (S47)) (l1 : List Int) : Option (List Int) := (portolanref09_Right.f k l0_0).bind fun t262 => (if t262 = true then (if 0 ≤ (wrap64 ((l0_0.length : Int) + 1)) then (if (wrap64 ((l0_0.length : Int) + 1) : Int).toNat ≤ 281474976710656 then (portolanref09_Reach.l0 k l1 (List.replicate (wrap64 ((l0_0.length : Int) + 1) : Int).toNat false) 0 l0_0) else (none)) else (none)) else (some ([] : List Int)))
theorem portolanref09_Reach.mono_l : ∀ k, (∀ y0 y1 y2 y3, LeO (portolanref09_Reach.l0 k y0 y1 y2 y3) (portolanref09_Reach.l0 (k + 1) y0 y1 y2 y3)) ∧ (∀ y0 y1 y2, LeO (portolanref09_Reach.l1 k y0 y1 y2) (portolanref09_Reach.l1 (k + 1) y0 y1 y2)) ∧ (∀ y0 y1 y2 y3, LeO (portolanref09_Reach.l2 k y0 y1 y2 y3) (portolanref09_Reach.l2 (k + 1) y0 y1 y2 y3)) ∧ (∀ y0 y1 y2 y3 y4, LeO (portolanref09_Reach.l3 k y0 y1 y2 y3 y4) (portolanref09_Reach.l3 (k + 1) y0 y1 y2 y3 y4)) ∧ (∀ y0 y1 y2 y3 y4 y5, LeO (portolanref09_Reach.j4 k y0 y1 y2 y3 y4 y5) (portolanref09_Reach.j4 (k + 1) y0 y1 y2 y3 y4 y5)) ∧ (∀ y0 y1 y2, LeO (portolanref09_Reach.l4 k y0 y1 y2) (portolanref09_Reach.l4 (k + 1) y0 y1 y2))
 | 0 => ⟨fun _ _ _ _ r h => by simp [portolanref09_Reach.l0] at h, fun _ _ _ r h => by simp [portolanref09_Reach.l1] at h, fun _ _ _ _ r h => by simp [portolanref09_Reach.l2] at h, fun _ _ _ _ _ r h => by simp [portolanref09_Reach.l3] at h, fun _ _ _ _ _ _ r h => by simp [portolanref09_Reach.j4] at h, fun _ _ _ r h => by simp [portolanref09_Reach.l4] at h⟩
 | k + 1 => by
  obtain ⟨ih0, ih1, ih2, ih3, ih4, ih5⟩ := portolanref09_Reach.mono_l k
  refine ⟨?_, ?_, ?_, ?_, ?_, ?_⟩
  ·intro y0 y1 y2 y3
   unfold portolanref09_Reach.l0
   repeat' first
   | (with_reducible exact ih0 _ _ _ _)
   | (with_reducible exact ih1 _ _ _)
   | (with_reducible exact ih2 _ _ _ _)
   | (with_reducible exact ih3 _ _ _ _ _)
   | (with_reducible exact ih4 _ _ _ _ _ _)
   | (with_reducible exact ih5 _ _ _)
   | (with_reducible exact portolanref09_Right.mono _ _)
   | (with_reducible exact LeO.refl _)
   | (with_reducible exact LeO.none _)
   | (with_reducible refine LeO.ite ?_ ?_)
   | (with_reducible refine LeO.bind ?_ (fun _ => ?_))
   | exact ih0 _ _ _ _
   | exact ih1 _ _ _
   | exact ih2 _ _ _ _
   | exact ih3 _ _ _ _ _
   | exact ih4 _ _ _ _ _ _
   | exact ih5 _ _ _
   | exact portolanref09_Right.mono _ _
   | exact LeO.none _
   | refine LeO.ite ?_ ?_
   | refine LeO.bind ?_ (fun _ => ?_)
  ·intro y0 y1 y2
   unfold portolanref09_Reach.l1
   repeat' first
   | (with_reducible exact ih0 _ _ _ _)
   | (with_reducible exact ih1 _ _ _)
   | (with_reducible exact ih2 _ _ _ _)
   | (with_reducible exact ih3 _ _ _ _ _)
   | (with_reducible exact ih4 _ _ _ _ _ _)
   | (with_reducible exact ih5 _ _ _)
   | (with_reducible exact portolanref09_Right.mono _ _)
   | (with_reducible exact LeO.refl _)
   | (with_reducible exact LeO.none _)
   | (with_reducible refine LeO.ite ?_ ?_)
   | (with_reducible refine LeO.bind ?_ (fun _ => ?_))
   | exact ih0 _ _ _ _
   | exact ih1 _ _ _
   | exact ih2 _ _ _ _
   | exact ih3 _ _ _ _ _
   | exact ih4 _ _ _ _ _ _
   | exact ih5 _ _ _
   | exact portolanref09_Right.mono _ _
   | exact LeO.none _
   | refine LeO.ite ?_ ?_
   | refine LeO.bind ?_ (fun _ => ?_)
  ·intro y0 y1 y2 y3
   unfold portolanref09_Reach.l2
   repeat' first
   | (with_reducible exact ih0 _ _ _ _)
   | (with_reducible exact ih1 _ _ _)
   | (with_reducible exact ih2 _ _ _ _)
   | (with_reducible exact ih3 _ _ _ _ _)
   | (with_reducible exact ih4 _ _ _ _ _ _)
   | (with_reducible exact ih5 _ _ _)
   | (with_reducible exact portolanref09_Right.mono _ _)
   | (with_reducible exact LeO.refl _)
   | (with_reducible exact LeO.none _)
   | (with_reducible refine LeO.ite ?_ ?_)
   | (with_reducible refine LeO.bind ?_ (fun _ => ?_))
   | exact ih0 _ _ _ _
   | exact ih1 _ _ _
   | exact ih2 _ _ _ _
   | exact ih3 _ _ _ _ _
   | exact ih4 _ _ _ _ _ _
   | exact ih5 _ _ _
   | exact portolanref09_Right.mono _ _
   | exact LeO.none _
   | refine LeO.ite ?_ ?_
   | refine LeO.bind ?_ (fun _ => ?_)
  ·intro y0 y1 y2 y3 y4
   unfold portolanref09_Reach.l3
   repeat' first
   | (with_reducible exact ih0 _ _ _ _)
   | (with_reducible exact ih1 _ _ _)
   | (with_reducible exact ih2 _ _ _ _)
   | (with_reducible exact ih3 _ _ _ _ _)
   | (with_reducible exact ih4 _ _ _ _ _ _)
   | (with_reducible exact ih5 _ _ _)
   | (with_reducible exact portolanref09_Right.mono _ _)
   | (with_reducible exact LeO.refl _)
   | (with_reducible exact LeO.none _)
   | (with_reducible refine LeO.ite ?_ ?_)
   | (with_reducible refine LeO.bind ?_ (fun _ => ?_))
   | exact ih0 _ _ _ _
   | exact ih1 _ _ _
   | exact ih2 _ _ _ _
   | exact ih3 _ _ _ _ _
   | exact ih4 _ _ _ _ _ _
   | exact ih5 _ _ _
   | exact portolanref09_Right.mono _ _
   | exact LeO.none _
   | refine LeO.ite ?_ ?_
   | refine LeO.bind ?_ (fun _ => ?_)
  ·intro y0 y1 y2 y3 y4 y5
   unfold portolanref09_Reach.j4
   repeat' first
   | (with_reducible exact ih0 _ _ _ _)
   | (with_reducible exact ih1 _ _ _)
   | (with_reducible exact ih2 _ _ _ _)
   | (with_reducible exact ih3 _ _ _ _ _)
   | (with_reducible exact ih4 _ _ _ _ _ _)
   | (with_reducible exact ih5 _ _ _)
   | (with_reducible exact portolanref09_Right.mono _ _)
   | (with_reducible exact LeO.refl _)
   | (with_reducible exact LeO.none _)
   | (with_reducible refine LeO.ite ?_ ?_)
   | (with_reducible refine LeO.bind ?_ (fun _ => ?_))
   | exact ih0 _ _ _ _
   | exact ih1 _ _ _
   | exact ih2 _ _ _ _
   | exact ih3 _ _ _ _ _
   | exact ih4 _ _ _ _ _ _
   | exact ih5 _ _ _
   | exact portolanref09_Right.mono _ _
   | exact LeO.none _
   | refine LeO.ite ?_ ?_
   | refine LeO.bind ?_ (fun _ => ?_)
  ·intro y0 y1 y2
   unfold portolanref09_Reach.l4
   repeat' first
   | (with_reducible exact ih0 _ _ _ _)
   | (with_reducible exact ih1 _ _ _)
   | (with_reducible exact ih2 _ _ _ _)
   | (with_reducible exact ih3 _ _ _ _ _)
   | (with_reducible exact ih4 _ _ _ _ _ _)
   | (with_reducible exact ih5 _ _ _)
   | (with_reducible exact portolanref09_Right.mono _ _)
   | (with_reducible exact LeO.refl _)
   | (with_reducible exact LeO.none _)
   | (with_reducible refine LeO.ite ?_ ?_)
   | (with_reducible refine LeO.bind ?_ (fun _ => ?_))
   | exact ih0 _ _ _ _
   | exact ih1 _ _ _
   | exact ih2 _ _ _ _
   | exact ih3 _ _ _ _ _
   | exact ih4 _ _ _ _ _ _
   | exact ih5 _ _ _
   | exact portolanref09_Right.mono _ _
   | exact LeO.none _
   | refine LeO.ite ?_ ?_
   | refine LeO.bind ?_ (fun _ => ?_)
theorem portolanref09_Reach.mono : ∀ a0 a1 k, LeO (portolanref09_Reach.f k a0 a1) (portolanref09_Reach.f (k + 1) a0 a1) := by
 intro a0 a1 k
 obtain ⟨ih0, ih1, ih2, ih3, ih4, ih5⟩ := portolanref09_Reach.mono_l k
 unfold portolanref09_Reach.f
 repeat' first
   | (with_reducible exact ih0 _ _ _ _)
   | (with_reducible exact ih1 _ _ _)
   | (with_reducible exact ih2 _ _ _ _)
   | (with_reducible exact ih3 _ _ _ _ _)
   | (with_reducible exact ih4 _ _ _ _ _ _)
   | (with_reducible exact ih5 _ _ _)
   | (with_reducible exact portolanref09_Right.mono _ _)
   | (with_reducible exact LeO.refl _)
   | (with_reducible exact LeO.none _)
   | (with_reducible refine LeO.ite ?_ ?_)
   | (with_reducible refine LeO.bind ?_ (fun _ => ?_))
   | exact ih0 _ _ _ _
   | exact ih1 _ _ _
   | exact ih2 _ _ _ _
   | exact ih3 _ _ _ _ _
   | exact ih4 _ _ _ _ _ _
   | exact ih5 _ _ _
   | exact portolanref09_Right.mono _ _
   | exact LeO.none _
   | refine LeO.ite ?_ ?_
   | refine LeO.bind ?_ (fun _ => ?_)
set_option maxHeartbeats 8000000 in
set_option maxRecDepth 100000 in
theorem portolanref09_Reach.calls (k : Nat) (A0_0 : Option Addr) (c0_0 : Nat) (l0_0 : List (S47)) (A1 : Option Addr) (c1 : Nat) (l1 : List Int) (r : List Int) (w : World) (hr0_0 : Kd.C k47 w A0_0 l0_0.length l0_0) (hc0_0 : l0_0.length ≤ c0_0) (hr1 : Kd.C (Kd.int .i64) w A1 l1.length l1) (hc1 : l1.length ≤ c1) (h : portolanref09_Reach.f k l0_0 l1 = some r) :
  Calls Try.prog 17 #[.agg #[.slice A0_0 l0_0.length c0_0], .slice A1 l1.length c1] w fun e w' => ∃ v0_ : Value, e = .returned (v0_) ∧ Kd.R (Kd.int .i64) 3 w' w.heap.size (fun _ => True) v0_ r ∧ Below w.heap.size w w' := by
 have hu24 := Try.underlying24
 have HR0_0 := Aside0.mk hr0_0
 have HC0_0 := Aside0.mk hc0_0
 clear hr0_0 hc0_0
 have HR1 := Aside0.mk hr1
 have HC1 := Aside0.mk hc1
 clear hr1 hc1
 have HB := Aside0.mk (Below.refl w.heap.size w)
 have H : ((portolanref09_Right.f k l0_0).bind fun t262 => (if t262 = true then (if 0 ≤ (wrap64 ((l0_0.length : Int) + 1)) then (if (wrap64 ((l0_0.length : Int) + 1) : Int).toNat ≤ 281474976710656 then (portolanref09_Reach.l0 k l1 (List.replicate (wrap64 ((l0_0.length : Int) + 1) : Int).toNat false) 0 l0_0) else (none)) else (none)) else (some ([] : List Int)))) = some r := h
 clear h
 replace H := Option.bind_eq_some_iff.mp H
 obtain ⟨t262, A30, H⟩ := H
 replace H : (if t262 = true then (if 0 ≤ (wrap64 ((l0_0.length : Int) + 1)) then (if (wrap64 ((l0_0.length : Int) + 1) : Int).toNat ≤ 281474976710656 then (portolanref09_Reach.l0 k l1 (List.replicate (wrap64 ((l0_0.length : Int) + 1) : Int).toNat false) 0 l0_0) else (none)) else (none)) else (some ([] : List Int))) = some r := H
 have A3 := Aside0.mk A30
 clear A30
 by_cases c4 : t262 = true
 ·subst c4
  have H1 : (if 0 ≤ (wrap64 ((l0_0.length : Int) + 1)) then (if (wrap64 ((l0_0.length : Int) + 1) : Int).toNat ≤ 281474976710656 then (portolanref09_Reach.l0 k l1 (List.replicate (wrap64 ((l0_0.length : Int) + 1) : Int).toNat false) 0 l0_0) else (none)) else (none)) = some r := by first | (rw [if_pos rfl] at H; exact H) | rfl
  clear H
  have H := H1
  clear H1
  obtain ⟨ji5, hji5⟩ : ∃ j_ : Int, (wrap64 ((l0_0.length : Int) + 1)) = j_ := ⟨_, rfl⟩
  replace H : (if 0 ≤ (ji5) then (if (ji5 : Int).toNat ≤ 281474976710656 then (portolanref09_Reach.l0 k l1 (List.replicate (ji5 : Int).toNat false) 0 l0_0) else (none)) else (none)) = some r := by first | (rw [hji5] at H; exact H) | (simp only [hji5] at H ⊢; exact H)
  (try rw [hji5] at A3)
  have hji5w : (IntKind.i64.wrap ((l0_0.length : Int) + 1)) = ji5 := (i64_w _).trans hji5
  by_cases c6 : 0 ≤ (ji5)
  ·rw [if_pos c6] at H
   have c6b0 := eq_true c6
   have c6b1 : decide (0 ≤ (ji5)) = true := decide_eq_true c6
   clear c6
   by_cases c7 : (ji5 : Int).toNat ≤ 281474976710656
   ·rw [if_pos c7] at H
    have c7b0 := eq_true c7
    have c7b1 : decide ((ji5 : Int).toNat ≤ 281474976710656) = true := decide_eq_true c7
    clear c7
    obtain ⟨y263, hy263⟩ : ∃ y_ : List Bool, y_ = (List.replicate (ji5 : Int).toNat false) := ⟨_, rfl⟩
    replace H : (portolanref09_Reach.l0 k l1 y263 0 l0_0) = some r := by first | (rw [hy263]; with_reducible exact H) | (have H2_ := (Option.bind_some _ _).symm.trans H; rw [hy263]; with_reducible exact H2_) | (have H2_ := (Option.bind_some _ _).symm.trans H; with_reducible exact H2_) | with_reducible exact H | (rw [hy263]; exact H) | exact H
    have Ny263 := Aside0.mk hy263
    clear hy263
    have H' := Aside0.mk H
    clear H
    go_enter Try.func17, Try.ntmps17
    go_wp2_with (first | ((with_reducible refine gate_dst (N := 2) rfl ?_); (try (refine gate_guard (by rfl) ?_; dsimp only)); refine box_event ?hg (N := 2) ?hd (cs := #[.slice A0_0 l0_0.length c0_0]) (t := 24) ?hr ?_; (case hd => rfl); (case hg => rfl); (case hr => first | (go_simp; done) | (go_simp; rfl)); intro gb261 hg w8 hbox hb; have n0_ := Aside0.mk (below_step (by repeat (first | (with_reducible first | exact HB.out | apply zq5 | apply zq4 | apply zq6) | exact HB.out)) hb); have n1_ := Aside0.mk (hbox); have n2_ := Aside0.mk ((by rw [hg]; exact (below_size (by repeat (first | (with_reducible first | exact HB.out | apply zq5 | apply zq4 | apply zq6) | exact HB.out))) : w.heap.size ≤ gb261)); have n3_ := Aside0.mk ((by rw [hg]; exact (below_size (by repeat (first | (with_reducible first | exact HB.out | apply zq5 | apply zq4 | apply zq6) | exact HB.out))) : w.heap.size ≤ gb261)); clear HB; have HB := n0_; have BK261 := n1_; have GW261 := n2_; have GE261 := n3_; clear n0_ n1_ n2_ n3_; clear hb hbox hg; have hcz9_0 : w8.cell? ⟨gb261, 0, none⟩ = some (.slice A0_0 l0_0.length c0_0) := (blk_cell BK261.out 0).trans rfl; have hfz9_0 := blk_frozen BK261.out 0) | ((with_reducible refine gate_callee (f := 14) rfl ?_); refine goesL_ (some 13) rfl rfl Try.func14 (by kernel_rfl) rfl #[.agg #[.slice A0_0 l0_0.length c0_0]] rfl (by (try simp only [List.map_toArray, List.map_cons, List.map_nil]); first | done | rfl | (simp only [List.length_drop, List.length_take]; rfl)) ?_; (with_reducible refine (portolanref09_Right.calls k _ _ l0_0 true _ ?side1 ?side2 A3.out).mono ?_); (case side1 => repeat (first | exact (Kd.C_below HR0_0.out HB.out) | (with_reducible refine Kd.C_alloc ?_ _) | (with_reducible refine Kd.C_drewN ?_ _) | (with_reducible refine Kd.C_drew ?_))); (case side2 => exact HC0_0.out); rintro e w10 ⟨rfl, hb⟩; refine ⟨_, rfl, ?_⟩; have n0_ := Aside0.mk (blk_below (g := gb261) (o := .cells #[.slice A0_0 l0_0.length c0_0] 24 (0, 0)) (by (with_reducible repeat (first | refine zq1 ?_ _ | refine zq2 ?_ | refine zq3 ?_ _)); exact BK261.out) hb); have n1_ := Aside0.mk (below_step (by repeat (first | (with_reducible first | exact HB.out | apply zq5 | apply zq4 | apply zq6 | refine below_set ?_ GE261.out) | exact HB.out)) hb); clear BK261; clear HB; have BK261 := n0_; have HB := n1_; clear n0_ n1_; (try clear hb); (try clear hb2); (try clear hk); (try clear hi); have hcz11_0 : w10.cell? ⟨gb261, 0, none⟩ = some (.slice A0_0 l0_0.length c0_0) := (blk_cell BK261.out 0).trans rfl; have hfz11_0 := blk_frozen BK261.out 0) | ((with_reducible refine gate_dst (N := 19) rfl ?_); (try (refine gate_guard (by rfl) ?_; dsimp only)); refine Kd.R_make Kd.bool _ 4 rfl (N := 19) rfl 53 _ _ rfl ji5 rfl rfl Try.underlying53 (.bool false) 1 info4 rfl (by decide) (by omega) false (ok := fun _ => True) (okp := fun _ => True) rfl (fun _ hk => hk) trivial (of_decide_eq_true (by first | (with_reducible assumption) | assumption)) (Nat.le_trans (Nat.mul_le_mul_right _ (of_decide_eq_true (by first | (with_reducible assumption) | assumption) : ji5.toNat ≤ 281474976710656)) (by omega)) (Below.refl _ _) (Nat.le_refl _) ?_; intro v264 w12 ho13 hb hg_ hnew_; clear hg_ hnew_; (first | rw [← Ny263.out] at ho13 | (simp only [Int.reduceToNat] at ho13; rw [← Ny263.out] at ho13)); have n0_ := Aside0.mk (Kd.R_lower ho13 (below_size (by repeat (first | (with_reducible first | exact HB.out | apply zq5 | apply zq4 | apply zq6 | refine below_set ?_ GE261.out) | exact HB.out)))); have n1_ := Aside0.mk (blk_below (g := gb261) (o := .cells #[.slice A0_0 l0_0.length c0_0] 24 (0, 0)) (by (with_reducible repeat (first | refine zq1 ?_ _ | refine zq2 ?_ | refine zq3 ?_ _)); exact BK261.out) hb); have n2_ := Aside0.mk (below_step (by repeat (first | (with_reducible first | exact HB.out | apply zq5 | apply zq4 | apply zq6 | refine below_set ?_ GE261.out) | exact HB.out)) hb); clear BK261; clear HB; have HO265 := n0_; have BK261 := n1_; have HB := n2_; clear n0_ n1_ n2_; clear hb ho13))
    go_loopg [6] k (fun kq v6 w' => ∃ (x5_1 : List Bool) (x6_1 : Int), v6 = .int .i64 x6_1 ∧ Aside0 (portolanref09_Reach.l0 kq l1 x5_1 x6_1 l0_0 = some r) ∧ Aside0 (kq ≤ k) ∧ Aside0 (Kd.R Kd.bool 4 w' w.heap.size (fun _ => True) v264 x5_1) ∧ Aside0 (w'.heap[gb261]? = some (.cells #[(.slice A0_0 l0_0.length c0_0)] 24 (0, 0))) ∧ Aside0 (Below w.heap.size w w'))
    case atStart => exact ⟨(y263), (0), (by first | rfl | (simp; done) | (simp [*]; done)), H', ⟨Nat.le_refl _⟩, ⟨by (with_reducible repeat (first | apply Kd.R_alloc | apply Kd.R_drewN | apply Kd.R_drew)); exact HO265.out⟩, ⟨by (with_reducible repeat (first | refine zq1 ?_ _ | refine zq2 ?_ | refine zq3 ?_ _)); exact BK261.out⟩, ⟨by repeat (first | (with_reducible first | exact HB.out | apply zq5 | apply zq4 | apply zq6 | refine below_set ?_ GE261.out) | exact HB.out)⟩⟩
    case round =>
     clear H'
     try clear c1
     try clear p2
     try clear c4
     try clear c6
     try clear c6b0
     try clear c6b1
     try clear p6
     try clear c7
     try clear c7b0
     try clear c7b1
     try clear hcz11_0
     try clear hcz9_0
     try clear hfz11_0
     try clear hfz9_0
     obtain ⟨x5_1, x6_1, rfl, HA, HK1, HO_5, BK261, HB⟩ := hrel
     cases gk with
     | zero => exact absurd HA.out (by simp [portolanref09_Reach.l0])
     | succ k1 =>
      have H := HA.out
      clear HA
      simp only [portolanref09_Reach.l0] at H
      by_cases c14 : x6_1 < (l1.length : Int)
      ·rw [if_pos c14] at H
       have c14b0 : decide (x6_1 < (l1.length : Int)) = true := decide_eq_true c14
       clear c14
       by_cases c15 : 0 ≤ x6_1
       ·rw [if_pos c15] at H
        have c15b0 : decide (0 ≤ x6_1) = true := decide_eq_true c15
        clear c15
        by_cases c16 : (rd l1 x6_1) ≥ 0
        ·rw [if_pos c16] at H
         have c16b0 : decide (0 ≤ (rd l1 x6_1)) = true := decide_eq_true c16
         clear c16
         by_cases c17 : (rd l1 x6_1) < (x5_1.length : Int)
         ·rw [if_pos c17] at H
          have c17b0 : decide ((rd l1 x6_1) < (x5_1.length : Int)) = true := decide_eq_true c17
          clear c17
          by_cases c18 : 0 ≤ (rd l1 x6_1)
          ·rw [if_pos c18] at H
           have c18b0 : decide (0 ≤ (rd l1 x6_1)) = true := decide_eq_true c18
           clear c18
           obtain ⟨y269, hy269⟩ : ∃ y_ : List Bool, y_ = (x5_1.set ((rd l1 x6_1) : Int).toNat true) := ⟨_, rfl⟩
           replace H : (portolanref09_Reach.l0 k1 l1 y269 (wrap64 (x6_1 + 1)) l0_0) = some r := by first | (rw [hy269]; with_reducible exact H) | (have H2_ := (Option.bind_some _ _).symm.trans H; rw [hy269]; with_reducible exact H2_) | (have H2_ := (Option.bind_some _ _).symm.trans H; with_reducible exact H2_) | with_reducible exact H | (rw [hy269]; exact H) | exact H
           have Ny269 := Aside0.mk hy269
           clear hy269
           have H' := Aside0.mk H
           clear H
           have p266 : 0 ≤ (x6_1 : Int) := of_decide_eq_true (by first | (with_reducible assumption) | assumption)
           have q266 : x6_1 < (l1.length : Int) := of_decide_eq_true (by first | (with_reducible assumption) | assumption)
           obtain ⟨ad266, e266, hx266_0⟩ := Kd.at_int HR1.out x6_1 p266 q266
           cases e266
           replace hx266_0 := (HB.out.cell (World.block_lt_of_cell? w _ hx266_0)).trans hx266_0
           replace p266 := eq_true p266
           replace q266 := eq_true q266
           have p267 : 0 ≤ (x6_1 : Int) := of_decide_eq_true (by first | (with_reducible assumption) | assumption)
           have q267 : x6_1 < (l1.length : Int) := of_decide_eq_true (by first | (with_reducible assumption) | assumption)
           obtain ⟨ad267, e267, hx267_0⟩ := Kd.at_int HR1.out x6_1 p267 q267
           obtain rfl : ad266 = ad267 := (by injection e267)
           replace hx267_0 := (HB.out.cell (World.block_lt_of_cell? w _ hx267_0)).trans hx267_0
           replace p267 := eq_true p267
           replace q267 := eq_true q267
           obtain ⟨Ao20, co20, eo20⟩ := Kd.R_slice HO_5.out
           subst eo20
           have p268 : 0 ≤ (x6_1 : Int) := of_decide_eq_true (by first | (with_reducible assumption) | assumption)
           have q268 : x6_1 < (l1.length : Int) := of_decide_eq_true (by first | (with_reducible assumption) | assumption)
           obtain ⟨ad268, e268, hx268_0⟩ := Kd.at_int HR1.out x6_1 p268 q268
           obtain rfl : ad266 = ad268 := (by injection e268)
           replace hx268_0 := (HB.out.cell (World.block_lt_of_cell? w _ hx268_0)).trans hx268_0
           replace p268 := eq_true p268
           replace q268 := eq_true q268
           have p19 : 0 ≤ ((rd l1 x6_1) : Int) := of_decide_eq_true (by first | (with_reducible assumption) | assumption)
           have q19 : ((rd l1 x6_1) : Int) < ((x5_1.length : Int) : Int) := of_decide_eq_true (by first | (with_reducible assumption) | assumption)
           obtain ⟨go19, co19, eo19, gb19, gl19, cl19, HG19⟩ := Kd.R_form HO_5.out (by omega)
           (first | cases eo19 | (injection eo19 with ea_ en_ ec_; (first | subst ea_ | (injection ea_ with ea_; subst ea_)); subst ec_; clear en_))
           have GB19 := Aside0.mk gb19
           have GG19 := Aside0.mk HG19
           clear gb19 gl19 HG19
           obtain ⟨hx19_0, hf19_0⟩ := Kd.R_celln false HO_5.out ((rd l1 x6_1) : Int) p19 q19
           replace p19 := eq_true p19
           replace q19 := eq_true q19
           have HP21 := Kd.R_putg HO_5.out ((rd l1 x6_1) : Int) true
           go_wp2_with (first | ((with_reducible refine gate_store (t := 4) (p := 45) rfl ?_); refine store_event (t := 4) (p := 45) (v := ?vo_w22) (w1 := (wr.setCell ⟨go19, ((rd l1 x6_1) : Int).toNat, none⟩ (.bool true))) ?hg ?ho ?hn ?hr ?_; (case ho => rfl); (case hg => rfl); (case hn => rfl); (case hr => first | (go_simp; done) | (go_simp; rfl)); intro w22 hw; have hg : wr.grownBy w22 (some go19) := (by rw [hw]; exact HP21.2); have hp_ : Kd.R Kd.bool 4 w22 w.heap.size (fun _ => True) (.slice (some ⟨go19, 0, none⟩) x5_1.length co20) y269 := (by rw [hw, Ny269.out]; exact HP21.1); clear HP21; have n0_ := Aside0.mk (hp_); have n1_ := Aside0.mk (blk_grown (g := gb261) (o := .cells #[.slice A0_0 l0_0.length c0_0] 24 (0, 0)) (by (with_reducible repeat (first | refine zq1 ?_ _ | refine zq2 ?_ | refine zq3 ?_ _)); exact BK261.out) hg (Kd.R_ne HO_5.out BK261.out (by decide))); have n2_ := Aside0.mk ((by rw [hw]; exact below_set (HB.out) GB19.out : Below w.heap.size w w22)); clear HO_5; clear BK261; clear HB; have HO_5 := n0_; have BK261 := n1_; have HB := n2_; clear n0_ n1_ n2_; clear hg hw hp_))
           go_roundg k1
           case measure => have := HK1.out; omega
           case rel => exact ⟨(y269), (wrap64 (x6_1 + 1)), (by first | rfl | (simp; done) | (simp [*]; done)), H', ⟨by have := HK1.out; omega⟩, ⟨by (with_reducible repeat (first | apply Kd.R_alloc | apply Kd.R_drewN | apply Kd.R_drew)); exact HO_5.out⟩, ⟨by (with_reducible repeat (first | refine zq1 ?_ _ | refine zq2 ?_ | refine zq3 ?_ _)); exact BK261.out⟩, ⟨by repeat (first | (with_reducible first | exact HB.out | apply zq5 | apply zq4 | apply zq6 | refine below_set ?_ GE261.out) | exact HB.out)⟩⟩
          ·rw [if_neg c18] at H
           exact absurd H (by simp)
         ·rw [if_neg c17] at H
          have c17b0 : decide ((rd l1 x6_1) < (x5_1.length : Int)) = false := decide_eq_false c17
          clear c17
          have H' := Aside0.mk H
          clear H
          have p266 : 0 ≤ (x6_1 : Int) := of_decide_eq_true (by first | (with_reducible assumption) | assumption)
          have q266 : x6_1 < (l1.length : Int) := of_decide_eq_true (by first | (with_reducible assumption) | assumption)
          obtain ⟨ad266, e266, hx266_0⟩ := Kd.at_int HR1.out x6_1 p266 q266
          cases e266
          replace hx266_0 := (HB.out.cell (World.block_lt_of_cell? w _ hx266_0)).trans hx266_0
          replace p266 := eq_true p266
          replace q266 := eq_true q266
          have p267 : 0 ≤ (x6_1 : Int) := of_decide_eq_true (by first | (with_reducible assumption) | assumption)
          have q267 : x6_1 < (l1.length : Int) := of_decide_eq_true (by first | (with_reducible assumption) | assumption)
          obtain ⟨ad267, e267, hx267_0⟩ := Kd.at_int HR1.out x6_1 p267 q267
          obtain rfl : ad266 = ad267 := (by injection e267)
          replace hx267_0 := (HB.out.cell (World.block_lt_of_cell? w _ hx267_0)).trans hx267_0
          replace p267 := eq_true p267
          replace q267 := eq_true q267
          obtain ⟨Ao23, co23, eo23⟩ := Kd.R_slice HO_5.out
          subst eo23
          go_wp2
          go_roundg k1
          case measure => have := HK1.out; omega
          case rel => exact ⟨(x5_1), (wrap64 (x6_1 + 1)), (by first | rfl | (simp; done) | (simp [*]; done)), H', ⟨by have := HK1.out; omega⟩, ⟨by (with_reducible repeat (first | apply Kd.R_alloc | apply Kd.R_drewN | apply Kd.R_drew)); exact HO_5.out⟩, ⟨by (with_reducible repeat (first | refine zq1 ?_ _ | refine zq2 ?_ | refine zq3 ?_ _)); exact BK261.out⟩, ⟨by repeat (first | (with_reducible first | exact HB.out | apply zq5 | apply zq4 | apply zq6 | refine below_set ?_ GE261.out) | exact HB.out)⟩⟩
        ·rw [if_neg c16] at H
         have c16b0 : decide (0 ≤ (rd l1 x6_1)) = false := decide_eq_false c16
         clear c16
         have H' := Aside0.mk H
         clear H
         have p266 : 0 ≤ (x6_1 : Int) := of_decide_eq_true (by first | (with_reducible assumption) | assumption)
         have q266 : x6_1 < (l1.length : Int) := of_decide_eq_true (by first | (with_reducible assumption) | assumption)
         obtain ⟨ad266, e266, hx266_0⟩ := Kd.at_int HR1.out x6_1 p266 q266
         cases e266
         replace hx266_0 := (HB.out.cell (World.block_lt_of_cell? w _ hx266_0)).trans hx266_0
         replace p266 := eq_true p266
         replace q266 := eq_true q266
         go_wp2
         go_roundg k1
         case measure => have := HK1.out; omega
         case rel => exact ⟨(x5_1), (wrap64 (x6_1 + 1)), (by first | rfl | (simp; done) | (simp [*]; done)), H', ⟨by have := HK1.out; omega⟩, ⟨by (with_reducible repeat (first | apply Kd.R_alloc | apply Kd.R_drewN | apply Kd.R_drew)); exact HO_5.out⟩, ⟨by (with_reducible repeat (first | refine zq1 ?_ _ | refine zq2 ?_ | refine zq3 ?_ _)); exact BK261.out⟩, ⟨by repeat (first | (with_reducible first | exact HB.out | apply zq5 | apply zq4 | apply zq6 | refine below_set ?_ GE261.out) | exact HB.out)⟩⟩
       ·rw [if_neg c15] at H
        exact absurd H (by simp)
      ·rw [if_neg c14] at H
       have c14b0 : decide (x6_1 < (l1.length : Int)) = false := decide_eq_false c14
       clear c14
       by_cases c24 : 0 < (x5_1.length : Int)
       ·rw [if_pos c24] at H
        have c24b0 : decide (0 < (x5_1.length : Int)) = true := decide_eq_true c24
        have c24b1 : decide (0 < x5_1.length) = true := decide_eq_true (by omega)
        clear c24
        obtain ⟨y270, hy270⟩ : ∃ y_ : List Bool, y_ = (x5_1.set (0 : Int).toNat false) := ⟨_, rfl⟩
        replace H : (portolanref09_Reach.l1 k1 y270 0 l0_0) = some r := by first | (rw [hy270]; with_reducible exact H) | (have H2_ := (Option.bind_some _ _).symm.trans H; rw [hy270]; with_reducible exact H2_) | (have H2_ := (Option.bind_some _ _).symm.trans H; with_reducible exact H2_) | with_reducible exact H | (rw [hy270]; exact H) | exact H
        have Ny270 := Aside0.mk hy270
        clear hy270
        have H' := Aside0.mk H
        clear H
        have p25 : 0 ≤ (0 : Int) := (by omega)
        have q25 : (0 : Int) < ((x5_1.length : Int) : Int) := of_decide_eq_true (by first | (with_reducible assumption) | assumption)
        have qi25 : (0 < x5_1.length) = True := eq_true (by omega)
        obtain ⟨go25, co25, eo25, gb25, gl25, cl25, HG25⟩ := Kd.R_form HO_5.out (by omega)
        (first | cases eo25 | (injection eo25 with ea_ en_ ec_; (first | subst ea_ | (injection ea_ with ea_; subst ea_)); subst ec_; clear en_))
        have GB25 := Aside0.mk gb25
        have GG25 := Aside0.mk HG25
        clear gb25 gl25 HG25
        obtain ⟨hx25_0, hf25_0⟩ := Kd.R_celln false HO_5.out (0 : Int) p25 q25
        (try rw [show ((0 : Int)).toNat = 0 from rfl] at hx25_0)
        (try simp only [Nat.reduceMul, Nat.zero_mul, Nat.zero_add, Nat.reduceAdd] at hx25_0)
        (try rw [show ((0 : Int)).toNat = 0 from rfl] at hf25_0)
        (try simp only [Nat.reduceMul, Nat.zero_mul, Nat.zero_add, Nat.reduceAdd] at hf25_0)
        replace p25 := eq_true p25
        replace q25 := eq_true q25
        have HP26 := Kd.R_putg HO_5.out (0 : Int) false
        go_wp2_with (first | ((with_reducible refine gate_store (t := 4) (p := 47) rfl ?_); refine store_event (t := 4) (p := 47) (v := ?vo_w27) (w1 := (wr.setCell ⟨go25, (0 : Int).toNat, none⟩ (.bool false))) ?hg ?ho ?hn ?hr ?_; (case ho => rfl); (case hg => rfl); (case hn => rfl); (case hr => first | (go_simp; done) | (go_simp; rfl)); intro w27 hw; have hg : wr.grownBy w27 (some go25) := (by rw [hw]; exact HP26.2); have hp_ : Kd.R Kd.bool 4 w27 w.heap.size (fun _ => True) (.slice (some ⟨go25, 0, none⟩) x5_1.length co25) y270 := (by rw [hw, Ny270.out]; exact HP26.1); clear HP26; have n0_ := Aside0.mk (hp_); have n1_ := Aside0.mk (blk_grown (g := gb261) (o := .cells #[.slice A0_0 l0_0.length c0_0] 24 (0, 0)) (by (with_reducible repeat (first | refine zq1 ?_ _ | refine zq2 ?_ | refine zq3 ?_ _)); exact BK261.out) hg (Kd.R_ne HO_5.out BK261.out (by decide))); have n2_ := Aside0.mk ((by rw [hw]; exact below_set (HB.out) GB25.out : Below w.heap.size w w27)); clear HO_5; clear BK261; clear HB; have HO_5 := n0_; have BK261 := n1_; have HB := n2_; clear n0_ n1_ n2_; clear hg hw hp_))
        go_loopg [7] k1 (fun kq v7 w' => ∃ (x5_2 : List Bool) (x7_2 : Int), v7 = .int .i64 x7_2 ∧ Aside0 (portolanref09_Reach.l1 kq x5_2 x7_2 l0_0 = some r) ∧ Aside0 (kq ≤ k1) ∧ Aside0 (Kd.R Kd.bool 4 w' w.heap.size (fun _ => True) (.slice (some ⟨go25, 0, none⟩) x5_1.length co25) x5_2) ∧ Aside0 (w'.heap[gb261]? = some (.cells #[(.slice A0_0 l0_0.length c0_0)] 24 (0, 0))) ∧ Aside0 (Below w.heap.size w w'))
        case atStart => exact ⟨(y270), (0), (by first | rfl | (simp; done) | (simp [*]; done)), H', ⟨Nat.le_refl _⟩, ⟨by (with_reducible repeat (first | apply Kd.R_alloc | apply Kd.R_drewN | apply Kd.R_drew)); exact HO_5.out⟩, ⟨by (with_reducible repeat (first | refine zq1 ?_ _ | refine zq2 ?_ | refine zq3 ?_ _)); exact BK261.out⟩, ⟨by repeat (first | (with_reducible first | exact HB.out | apply zq5 | apply zq4 | apply zq6 | refine below_set ?_ GE261.out) | exact HB.out)⟩⟩
        case round =>
         clear H'
         try clear c1
         try clear p1
         try clear q1
         try clear hx1
         try clear c2
         try clear p2
         try clear q2
         try clear hx2
         try clear qi2
         try clear hf2
         try clear c4
         try clear c6
         try clear c6b0
         try clear c6b1
         try clear p6
         try clear c7
         try clear c7b0
         try clear c7b1
         try clear c14
         try clear c14b0
         try clear c15
         try clear c15b0
         try clear c16
         try clear c16b0
         try clear c17
         try clear c17b0
         try clear c18
         try clear c18b0
         try clear p19
         try clear q19
         try clear hx19
         try clear hf19
         try clear c24
         try clear c24b0
         try clear c24b1
         try clear p25
         try clear q25
         try clear hx25
         try clear qi25
         try clear hf25
         try clear p26
         try clear q26
         try clear hx26
         try clear hcz11_0
         try clear hcz9_0
         try clear hfz11_0
         try clear hfz9_0
         try clear hx19_0
         try clear hx25_0
         try clear hx266_0
         try clear hx267_0
         try clear hx268_0
         try clear p19
         try clear p2
         try clear p25
         try clear p266
         try clear p267
         try clear p268
         try clear p6
         try clear q19
         try clear q25
         try clear q266
         try clear q267
         try clear q268
         obtain ⟨x5_2, x7_2, rfl, HA, HK2, HO_5, BK261, HB⟩ := hrel
         have hl5_2 := (Kd.R_reads' HO_5.out).1
         rw [hl5_2] at HO_5
         (try simp only [hl5_2])
         (try simp only [hl5_2] at BK261)
         cases gk with
         | zero => exact absurd HA.out (by simp [portolanref09_Reach.l1])
         | succ k2 =>
          have H := HA.out
          clear HA
          simp only [portolanref09_Reach.l1] at H
          by_cases c28 : x7_2 < (l0_0.length : Int)
          ·rw [if_pos c28] at H
           have c28b0 : decide (x7_2 < (l0_0.length : Int)) = true := decide_eq_true c28
           clear c28
           have H' := Aside0.mk H
           clear H
           have hcz29_0 : wr.cell? ⟨gb261, 0, none⟩ = some (.slice A0_0 l0_0.length c0_0) := (blk_cell BK261.out 0).trans rfl
           have hfz29_0 := blk_frozen BK261.out 0
           go_wp2
           go_loopg [8] k2 (fun kq v8 w' => ∃ (x5_3 : List Bool) (x8_3 : Int), v8 = .int .i64 x8_3 ∧ Aside0 (portolanref09_Reach.l2 kq x5_3 x7_2 x8_3 l0_0 = some r) ∧ Aside0 (kq ≤ k2) ∧ Aside0 (Kd.R Kd.bool 4 w' w.heap.size (fun _ => True) (.slice (some ⟨go25, 0, none⟩) x5_2.length co25) x5_3) ∧ Aside0 (w'.heap[gb261]? = some (.cells #[(.slice A0_0 l0_0.length c0_0)] 24 (0, 0))) ∧ Aside0 (Below w.heap.size w w'))
           case atStart => exact ⟨(x5_2), (0), (by first | rfl | (simp; done) | (simp [*]; done)), H', ⟨Nat.le_refl _⟩, ⟨by (try simp only [hl5_2]); (with_reducible repeat (first | apply Kd.R_alloc | apply Kd.R_drewN | apply Kd.R_drew)); exact HO_5.out⟩, ⟨by (try simp only [hl5_2]); (with_reducible repeat (first | refine zq1 ?_ _ | refine zq2 ?_ | refine zq3 ?_ _)); exact BK261.out⟩, ⟨by repeat (first | (with_reducible first | exact HB.out | apply zq5 | apply zq4 | apply zq6 | refine below_set ?_ GE261.out) | exact HB.out)⟩⟩
           case round =>
            clear H'
            try clear c1
            try clear p1
            try clear q1
            try clear hx1
            try clear c2
            try clear p2
            try clear q2
            try clear hx2
            try clear qi2
            try clear hf2
            try clear c4
            try clear c6
            try clear c6b0
            try clear c6b1
            try clear p6
            try clear c7
            try clear c7b0
            try clear c7b1
            try clear c14
            try clear c14b0
            try clear c15
            try clear c15b0
            try clear c16
            try clear c16b0
            try clear c17
            try clear c17b0
            try clear c18
            try clear c18b0
            try clear p19
            try clear q19
            try clear hx19
            try clear hf19
            try clear c24
            try clear c24b0
            try clear c24b1
            try clear p25
            try clear q25
            try clear hx25
            try clear qi25
            try clear hf25
            try clear p26
            try clear q26
            try clear hx26
            try clear c28
            try clear c28b0
            try clear hcz11_0
            try clear hcz29_0
            try clear hcz9_0
            try clear hfz11_0
            try clear hfz29_0
            try clear hfz9_0
            try clear hx19_0
            try clear hx25_0
            try clear hx266_0
            try clear hx267_0
            try clear hx268_0
            try clear p1
            try clear p19
            try clear p2
            try clear p25
            try clear p26
            try clear p266
            try clear p267
            try clear p268
            try clear p6
            try clear q1
            try clear q19
            try clear q2
            try clear q25
            try clear q26
            try clear q266
            try clear q267
            try clear q268
            obtain ⟨x5_3, x8_3, rfl, HA, HK3, HO_5, BK261, HB⟩ := hrel
            have hl5_3 := (Kd.R_reads' HO_5.out).1
            rw [hl5_3] at HO_5
            (try simp only [hl5_3])
            (try simp only [hl5_3] at BK261)
            cases gk with
            | zero => exact absurd HA.out (by simp [portolanref09_Reach.l2])
            | succ k3 =>
             have H := HA.out
             clear HA
             simp only [portolanref09_Reach.l2] at H
             by_cases c30 : x8_3 < (l0_0.length : Int)
             ·rw [if_pos c30] at H
              have c30b0 : decide (x8_3 < (l0_0.length : Int)) = true := decide_eq_true c30
              clear c30
              have H' := Aside0.mk H
              clear H
              have hcz31_0 : wr.cell? ⟨gb261, 0, none⟩ = some (.slice A0_0 l0_0.length c0_0) := (blk_cell BK261.out 0).trans rfl
              have hfz31_0 := blk_frozen BK261.out 0
              go_wp2
              go_loopg [9] k3 (fun kq v9 w' => ∃ (x5_4 : List Bool) (x9_4 : Int), v9 = .int .i64 x9_4 ∧ Aside0 (portolanref09_Reach.l3 kq x5_4 x7_2 x8_3 x9_4 l0_0 = some r) ∧ Aside0 (kq ≤ k3) ∧ Aside0 (Kd.R Kd.bool 4 w' w.heap.size (fun _ => True) (.slice (some ⟨go25, 0, none⟩) x5_3.length co25) x5_4) ∧ Aside0 (w'.heap[gb261]? = some (.cells #[(.slice A0_0 l0_0.length c0_0)] 24 (0, 0))) ∧ Aside0 (Below w.heap.size w w'))
              case atStart => exact ⟨(x5_3), (0), (by first | rfl | (simp; done) | (simp [*]; done)), H', ⟨Nat.le_refl _⟩, ⟨by (try simp only [hl5_2]); (try simp only [hl5_3]); (with_reducible repeat (first | apply Kd.R_alloc | apply Kd.R_drewN | apply Kd.R_drew)); exact HO_5.out⟩, ⟨by (try simp only [hl5_2]); (try simp only [hl5_3]); (with_reducible repeat (first | refine zq1 ?_ _ | refine zq2 ?_ | refine zq3 ?_ _)); exact BK261.out⟩, ⟨by repeat (first | (with_reducible first | exact HB.out | apply zq5 | apply zq4 | apply zq6 | refine below_set ?_ GE261.out) | exact HB.out)⟩⟩
              case round =>
               clear H'
               try clear c1
               try clear p1
               try clear q1
               try clear hx1
               try clear c2
               try clear p2
               try clear q2
               try clear hx2
               try clear qi2
               try clear hf2
               try clear c3
               try clear c4
               try clear c6
               try clear c6b0
               try clear c6b1
               try clear p6
               try clear c7
               try clear c7b0
               try clear c7b1
               try clear c14
               try clear c14b0
               try clear c15
               try clear c15b0
               try clear c16
               try clear c16b0
               try clear c17
               try clear c17b0
               try clear c18
               try clear c18b0
               try clear p19
               try clear q19
               try clear hx19
               try clear hf19
               try clear c24
               try clear c24b0
               try clear c24b1
               try clear p25
               try clear q25
               try clear hx25
               try clear qi25
               try clear hf25
               try clear p26
               try clear q26
               try clear hx26
               try clear c28
               try clear c28b0
               try clear c30
               try clear c30b0
               try clear hcz11_0
               try clear hcz29_0
               try clear hcz31_0
               try clear hcz9_0
               try clear hfz11_0
               try clear hfz29_0
               try clear hfz31_0
               try clear hfz9_0
               try clear hx19_0
               try clear hx25_0
               try clear hx266_0
               try clear hx267_0
               try clear hx268_0
               try clear p1
               try clear p19
               try clear p2
               try clear p25
               try clear p26
               try clear p266
               try clear p267
               try clear p268
               try clear p6
               try clear q1
               try clear q19
               try clear q2
               try clear q25
               try clear q26
               try clear q266
               try clear q267
               try clear q268
               obtain ⟨x5_4, x9_4, rfl, HA, HK4, HO_5, BK261, HB⟩ := hrel
               have hl5_4 := (Kd.R_reads' HO_5.out).1
               rw [hl5_4] at HO_5
               (try simp only [hl5_4])
               (try simp only [hl5_4] at BK261)
               cases gk with
               | zero => exact absurd HA.out (by simp [portolanref09_Reach.l3])
               | succ k4 =>
                have H := HA.out
                clear HA
                simp only [portolanref09_Reach.l3] at H
                have HC32 := Aside0.mk H
                clear H
                go_upto_region 17 with (fail)
                go_cut [77] (fun v77 wc => ∃ (kq : Nat) (x77_31 : Bool), v77 = .bool x77_31 ∧ Aside0 (portolanref09_Reach.j4 kq x5_4 x7_2 x8_3 x9_4 x77_31 l0_0 = some r) ∧ Aside0 (kq ≤ k4) ∧ Aside0 (Kd.R Kd.bool 4 wc w.heap.size (fun _ => True) (.slice (some ⟨go25, 0, none⟩) x5_4.length co25) x5_4) ∧ Aside0 (wc.heap[gb261]? = some (.cells #[(.slice A0_0 l0_0.length c0_0)] 24 (0, 0))) ∧ Aside0 (Below w.heap.size w wc))
                case first =>
                 have H := HC32.out
                 clear HC32
                 by_cases c33 : 0 ≤ x8_3
                 ·rw [if_pos c33] at H
                  have c33b0 : decide (0 ≤ x8_3) = true := decide_eq_true c33
                  clear c33
                  (first | rw [c33b0] | (simp only [i64_w, i32_w]; rw [c33b0]) | skip)
                  by_cases c34 : x8_3 < (l0_0.length : Int)
                  ·rw [if_pos c34] at H
                   have c34b0 : decide (x8_3 < (l0_0.length : Int)) = true := decide_eq_true c34
                   clear c34
                   by_cases c35 : x9_4 < (((rd_T47 l0_0 x8_3).f0).length : Int)
                   ·rw [if_pos c35] at H
                    have c35b0 : decide (x9_4 < (((rd_T47 l0_0 x8_3).f0).length : Int)) = true := decide_eq_true c35
                    clear c35
                    obtain ⟨ji36, hji36⟩ : ∃ j_ : Int, (wrap64 (x8_3 + 1)) = j_ := ⟨_, rfl⟩
                    replace H : (if 0 ≤ (ji36) then (if (ji36) < (x5_4.length : Int) then (portolanref09_Reach.j4 k4 x5_4 x7_2 x8_3 x9_4 (rdOf false x5_4 (ji36)) l0_0) else (none)) else (none)) = some r := by first | (rw [hji36] at H; exact H) | (simp only [hji36] at H ⊢; exact H)
                    have hji36w : (IntKind.i64.wrap (x8_3 + 1)) = ji36 := (i64_w _).trans hji36
                    by_cases c37 : 0 ≤ (ji36)
                    ·rw [if_pos c37] at H
                     have c37b0 : decide (0 ≤ (ji36)) = true := decide_eq_true c37
                     clear c37
                     by_cases c38 : (ji36) < (x5_4.length : Int)
                     ·rw [if_pos c38] at H
                      have c38b0 : decide ((ji36) < (x5_4.length : Int)) = true := decide_eq_true c38
                      clear c38
                      have H' := Aside0.mk H
                      clear H
                      have hcz39_0 : wr.cell? ⟨gb261, 0, none⟩ = some (.slice A0_0 l0_0.length c0_0) := (blk_cell BK261.out 0).trans rfl
                      have hfz39_0 := blk_frozen BK261.out 0
                      have p271 : 0 ≤ (x8_3 : Int) := of_decide_eq_true (by first | (with_reducible assumption) | assumption)
                      have q271 : x8_3 < (l0_0.length : Int) := of_decide_eq_true (by first | (with_reducible assumption) | assumption)
                      obtain ⟨ad271, A271_0, c271_0, A271_1, c271_1, e271, hx271_0, hx271_1, hl271_0, hi271_0, hl271_1, hi271_1⟩ := at_T47 HR0_0.out x8_3 p271 q271
                      cases e271
                      replace hx271_0 := (HB.out.cell (World.block_lt_of_cell? w _ hx271_0)).trans hx271_0
                      replace hx271_1 := (HB.out.cell (World.block_lt_of_cell? w _ hx271_1)).trans hx271_1
                      have HR271_0 := Aside0.mk hi271_0
                      have HC271_0 := Aside0.mk hl271_0
                      clear hi271_0 hl271_0
                      have HR271_1 := Aside0.mk hi271_1
                      have HC271_1 := Aside0.mk hl271_1
                      clear hi271_1 hl271_1
                      replace p271 := eq_true p271
                      replace q271 := eq_true q271
                      have p272 : 0 ≤ ((ji36) : Int) := of_decide_eq_true (by first | (with_reducible assumption) | assumption)
                      have q272 : (ji36) < (x5_4.length : Int) := of_decide_eq_true (by first | (with_reducible assumption) | assumption)
                      obtain ⟨ad272, e272, hx272_0⟩ := Kd.at_bool (Kd.R_reads' HO_5.out).2.2 (ji36) p272 q272
                      obtain rfl : (⟨go25, 0, none⟩ : Addr) = ad272 := (by injection e272)
                      (first | simp only [add_plain] at hx272_0 | simp only [add_at] at hx272_0 | simp only [Addr.add, Nat.zero_add] at hx272_0 | skip)
                      replace p272 := eq_true p272
                      replace q272 := eq_true q272
                      go_wp2
                      go_meet
                      case rel => exact ⟨_, (rdOf false x5_4 (ji36)), (by first | rfl | (simp; done) | (simp only [← hji36] <;> (first | rfl | simp)) | (simp [*]; done)), H', ⟨by have := HK1.out; have := HK2.out; have := HK3.out; have := HK4.out; first | omega | exact Nat.le_refl _⟩, ⟨by (try simp only [hl5_2]); (try simp only [hl5_3]); (try simp only [hl5_4]); (with_reducible repeat (first | apply Kd.R_alloc | apply Kd.R_drewN | apply Kd.R_drew)); exact HO_5.out⟩, ⟨by (try simp only [hl5_2]); (try simp only [hl5_3]); (try simp only [hl5_4]); (with_reducible repeat (first | refine zq1 ?_ _ | refine zq2 ?_ | refine zq3 ?_ _)); exact BK261.out⟩, ⟨by repeat (first | (with_reducible first | exact HB.out | apply zq5 | apply zq4 | apply zq6 | refine below_set ?_ GE261.out) | exact HB.out)⟩⟩
                     ·rw [if_neg c38] at H
                      exact absurd H (by simp)
                    ·rw [if_neg c37] at H
                     exact absurd H (by simp)
                   ·rw [if_neg c35] at H
                    have c35b0 : decide (x9_4 < (((rd_T47 l0_0 x8_3).f0).length : Int)) = false := decide_eq_false c35
                    clear c35
                    have H' := Aside0.mk H
                    clear H
                    have hcz40_0 : wr.cell? ⟨gb261, 0, none⟩ = some (.slice A0_0 l0_0.length c0_0) := (blk_cell BK261.out 0).trans rfl
                    have hfz40_0 := blk_frozen BK261.out 0
                    have p271 : 0 ≤ (x8_3 : Int) := of_decide_eq_true (by first | (with_reducible assumption) | assumption)
                    have q271 : x8_3 < (l0_0.length : Int) := of_decide_eq_true (by first | (with_reducible assumption) | assumption)
                    obtain ⟨ad271, A271_0, c271_0, A271_1, c271_1, e271, hx271_0, hx271_1, hl271_0, hi271_0, hl271_1, hi271_1⟩ := at_T47 HR0_0.out x8_3 p271 q271
                    cases e271
                    replace hx271_0 := (HB.out.cell (World.block_lt_of_cell? w _ hx271_0)).trans hx271_0
                    replace hx271_1 := (HB.out.cell (World.block_lt_of_cell? w _ hx271_1)).trans hx271_1
                    have HR271_0 := Aside0.mk hi271_0
                    have HC271_0 := Aside0.mk hl271_0
                    clear hi271_0 hl271_0
                    have HR271_1 := Aside0.mk hi271_1
                    have HC271_1 := Aside0.mk hl271_1
                    clear hi271_1 hl271_1
                    replace p271 := eq_true p271
                    replace q271 := eq_true q271
                    go_wp2
                    go_meet
                    case rel => exact ⟨_, (false), (by first | rfl | (simp; done) | (simp [*]; done)), H', ⟨by have := HK1.out; have := HK2.out; have := HK3.out; have := HK4.out; first | omega | exact Nat.le_refl _⟩, ⟨by (try simp only [hl5_2]); (try simp only [hl5_3]); (try simp only [hl5_4]); (with_reducible repeat (first | apply Kd.R_alloc | apply Kd.R_drewN | apply Kd.R_drew)); exact HO_5.out⟩, ⟨by (try simp only [hl5_2]); (try simp only [hl5_3]); (try simp only [hl5_4]); (with_reducible repeat (first | refine zq1 ?_ _ | refine zq2 ?_ | refine zq3 ?_ _)); exact BK261.out⟩, ⟨by repeat (first | (with_reducible first | exact HB.out | apply zq5 | apply zq4 | apply zq6 | refine below_set ?_ GE261.out) | exact HB.out)⟩⟩
                  ·rw [if_neg c34] at H
                   exact absurd H (by simp)
                 ·rw [if_neg c33] at H
                  exact absurd H (by simp)
                case rest =>
                 clear HC32
                 try clear c1
                 try clear p1
                 try clear q1
                 try clear hx1
                 try clear c2
                 try clear p2
                 try clear q2
                 try clear hx2
                 try clear qi2
                 try clear hf2
                 try clear c3
                 try clear c4
                 try clear c6
                 try clear c6b0
                 try clear c6b1
                 try clear p6
                 try clear c7
                 try clear c7b0
                 try clear c7b1
                 try clear c14
                 try clear c14b0
                 try clear c15
                 try clear c15b0
                 try clear c16
                 try clear c16b0
                 try clear c17
                 try clear c17b0
                 try clear c18
                 try clear c18b0
                 try clear p19
                 try clear q19
                 try clear hx19
                 try clear hf19
                 try clear c24
                 try clear c24b0
                 try clear c24b1
                 try clear p25
                 try clear q25
                 try clear hx25
                 try clear qi25
                 try clear hf25
                 try clear p26
                 try clear q26
                 try clear hx26
                 try clear c27
                 try clear p27
                 try clear q27
                 try clear hx27
                 try clear c28
                 try clear c28b0
                 try clear c30
                 try clear c30b0
                 try clear c33
                 try clear c33b0
                 try clear c34
                 try clear c34b0
                 try clear c35
                 try clear c35b0
                 try clear c37
                 try clear c37b0
                 try clear c38
                 try clear c38b0
                 try clear hcz11_0
                 try clear hcz29_0
                 try clear hcz31_0
                 try clear hcz39_0
                 try clear hcz40_0
                 try clear hcz9_0
                 try clear hfz11_0
                 try clear hfz29_0
                 try clear hfz31_0
                 try clear hfz39_0
                 try clear hfz40_0
                 try clear hfz9_0
                 try clear hx19_0
                 try clear hx25_0
                 try clear hx266_0
                 try clear hx267_0
                 try clear hx268_0
                 try clear hx271_0
                 try clear hx271_1
                 try clear hx272_0
                 try clear p1
                 try clear p19
                 try clear p2
                 try clear p25
                 try clear p26
                 try clear p266
                 try clear p267
                 try clear p268
                 try clear p271
                 try clear p272
                 try clear p6
                 try clear q1
                 try clear q19
                 try clear q2
                 try clear q25
                 try clear q26
                 try clear q266
                 try clear q267
                 try clear q268
                 try clear q271
                 try clear q272
                 obtain ⟨kq, x77_31, rfl, HA, HJ31, HO_5, BK261, HB⟩ := hcut
                 cases kq with
                 | zero => exact absurd HA.out (by simp [portolanref09_Reach.j4])
                 | succ kj31 =>
                  have H := HA.out
                  clear HA
                  simp only [portolanref09_Reach.j4] at H
                  by_cases c41 : x77_31 = true
                  ·subst c41
                   have H1 : (if 0 ≤ x8_3 then (if x8_3 < (l0_0.length : Int) then (if 0 ≤ x9_4 then (if x9_4 < (((rd_T47 l0_0 x8_3).f0).length : Int) then (if (rd ((rd_T47 l0_0 x8_3).f0) x9_4) > 0 then (if 0 ≤ (rd ((rd_T47 l0_0 x8_3).f0) x9_4) then (if (rd ((rd_T47 l0_0 x8_3).f0) x9_4) < (x5_4.length : Int) then (portolanref09_Reach.l3 kj31 (x5_4.set ((rd ((rd_T47 l0_0 x8_3).f0) x9_4) : Int).toNat true) x7_2 x8_3 (wrap64 (x9_4 + 1)) l0_0) else (none)) else (none)) else (portolanref09_Reach.l3 kj31 x5_4 x7_2 x8_3 (wrap64 (x9_4 + 1)) l0_0)) else (none)) else (none)) else (none)) else (none)) = some r := by first | (rw [if_pos rfl] at H; exact H) | rfl
                   clear H
                   have H := H1
                   clear H1
                   by_cases c42 : 0 ≤ x8_3
                   ·rw [if_pos c42] at H
                    have c42b0 : decide (0 ≤ x8_3) = true := decide_eq_true c42
                    clear c42
                    by_cases c43 : x8_3 < (l0_0.length : Int)
                    ·rw [if_pos c43] at H
                     have c43b0 : decide (x8_3 < (l0_0.length : Int)) = true := decide_eq_true c43
                     clear c43
                     by_cases c44 : 0 ≤ x9_4
                     ·rw [if_pos c44] at H
                      have c44b0 : decide (0 ≤ x9_4) = true := decide_eq_true c44
                      clear c44
                      by_cases c45 : x9_4 < (((rd_T47 l0_0 x8_3).f0).length : Int)
                      ·rw [if_pos c45] at H
                       have c45b0 : decide (x9_4 < (((rd_T47 l0_0 x8_3).f0).length : Int)) = true := decide_eq_true c45
                       clear c45
                       by_cases c46 : (rd ((rd_T47 l0_0 x8_3).f0) x9_4) > 0
                       ·rw [if_pos c46] at H
                        have c46b0 : decide (0 < (rd ((rd_T47 l0_0 x8_3).f0) x9_4)) = true := decide_eq_true c46
                        clear c46
                        by_cases c47 : 0 ≤ (rd ((rd_T47 l0_0 x8_3).f0) x9_4)
                        ·rw [if_pos c47] at H
                         have c47b0 : decide (0 ≤ (rd ((rd_T47 l0_0 x8_3).f0) x9_4)) = true := decide_eq_true c47
                         clear c47
                         by_cases c48 : (rd ((rd_T47 l0_0 x8_3).f0) x9_4) < (x5_4.length : Int)
                         ·rw [if_pos c48] at H
                          have c48b0 : decide ((rd ((rd_T47 l0_0 x8_3).f0) x9_4) < (x5_4.length : Int)) = true := decide_eq_true c48
                          clear c48
                          obtain ⟨y277, hy277⟩ : ∃ y_ : List Bool, y_ = (x5_4.set ((rd ((rd_T47 l0_0 x8_3).f0) x9_4) : Int).toNat true) := ⟨_, rfl⟩
                          replace H : (portolanref09_Reach.l3 kj31 y277 x7_2 x8_3 (wrap64 (x9_4 + 1)) l0_0) = some r := by first | (rw [hy277]; with_reducible exact H) | (have H2_ := (Option.bind_some _ _).symm.trans H; rw [hy277]; with_reducible exact H2_) | (have H2_ := (Option.bind_some _ _).symm.trans H; with_reducible exact H2_) | with_reducible exact H | (rw [hy277]; exact H) | exact H
                          have Ny277 := Aside0.mk hy277
                          clear hy277
                          have H' := Aside0.mk H
                          clear H
                          have hcz50_0 : wc.cell? ⟨gb261, 0, none⟩ = some (.slice A0_0 l0_0.length c0_0) := (blk_cell BK261.out 0).trans rfl
                          have hfz50_0 := blk_frozen BK261.out 0
                          have p273 : 0 ≤ (x8_3 : Int) := of_decide_eq_true (by first | (with_reducible assumption) | assumption)
                          have q273 : x8_3 < (l0_0.length : Int) := of_decide_eq_true (by first | (with_reducible assumption) | assumption)
                          obtain ⟨ad273, A273_0, c273_0, A273_1, c273_1, e273, hx273_0, hx273_1, hl273_0, hi273_0, hl273_1, hi273_1⟩ := at_T47 HR0_0.out x8_3 p273 q273
                          cases e273
                          replace hx273_0 := (HB.out.cell (World.block_lt_of_cell? w _ hx273_0)).trans hx273_0
                          replace hx273_1 := (HB.out.cell (World.block_lt_of_cell? w _ hx273_1)).trans hx273_1
                          have HR273_0 := Aside0.mk hi273_0
                          have HC273_0 := Aside0.mk hl273_0
                          clear hi273_0 hl273_0
                          have HR273_1 := Aside0.mk hi273_1
                          have HC273_1 := Aside0.mk hl273_1
                          clear hi273_1 hl273_1
                          replace p273 := eq_true p273
                          replace q273 := eq_true q273
                          have p274 : 0 ≤ (x9_4 : Int) := of_decide_eq_true (by first | (with_reducible assumption) | assumption)
                          have q274 : x9_4 < (((rd_T47 l0_0 x8_3).f0).length : Int) := of_decide_eq_true (by first | (with_reducible assumption) | assumption)
                          obtain ⟨ad274, e274, hx274_0⟩ := Kd.at_int HR273_0.out x9_4 p274 q274
                          cases e274
                          replace hx274_0 := (HB.out.cell (World.block_lt_of_cell? w _ hx274_0)).trans hx274_0
                          replace p274 := eq_true p274
                          replace q274 := eq_true q274
                          have p275 : 0 ≤ (x8_3 : Int) := of_decide_eq_true (by first | (with_reducible assumption) | assumption)
                          have q275 : x8_3 < (l0_0.length : Int) := of_decide_eq_true (by first | (with_reducible assumption) | assumption)
                          obtain ⟨ad275, A275_0, c275_0, A275_1, c275_1, e275, hx275_0, hx275_1, hl275_0, hi275_0, hl275_1, hi275_1⟩ := at_T47 HR0_0.out x8_3 p275 q275
                          obtain rfl : ad273 = ad275 := (by injection e275)
                          replace hx275_0 := (HB.out.cell (World.block_lt_of_cell? w _ hx275_0)).trans hx275_0
                          replace hx275_1 := (HB.out.cell (World.block_lt_of_cell? w _ hx275_1)).trans hx275_1
                          have HR275_0 := Aside0.mk hi275_0
                          have HC275_0 := Aside0.mk hl275_0
                          clear hi275_0 hl275_0
                          have HR275_1 := Aside0.mk hi275_1
                          have HC275_1 := Aside0.mk hl275_1
                          clear hi275_1 hl275_1
                          replace p275 := eq_true p275
                          replace q275 := eq_true q275
                          have ea_ := Option.some.inj (hx273_0.symm.trans hx275_0)
                          injection ea_ with ea_ en_ ec_
                          subst ea_
                          subst ec_
                          clear en_
                          have ea_ := Option.some.inj (hx273_1.symm.trans hx275_1)
                          injection ea_ with ea_ en_ ec_
                          subst ea_
                          subst ec_
                          clear en_
                          have p276 : 0 ≤ (x9_4 : Int) := of_decide_eq_true (by first | (with_reducible assumption) | assumption)
                          have q276 : x9_4 < (((rd_T47 l0_0 x8_3).f0).length : Int) := of_decide_eq_true (by first | (with_reducible assumption) | assumption)
                          obtain ⟨ad276, e276, hx276_0⟩ := Kd.at_int HR275_0.out x9_4 p276 q276
                          cases e276
                          replace hx276_0 := (HB.out.cell (World.block_lt_of_cell? w _ hx276_0)).trans hx276_0
                          replace p276 := eq_true p276
                          replace q276 := eq_true q276
                          have p49 : 0 ≤ ((rd ((rd_T47 l0_0 x8_3).f0) x9_4) : Int) := of_decide_eq_true (by first | (with_reducible assumption) | assumption)
                          have q49 : ((rd ((rd_T47 l0_0 x8_3).f0) x9_4) : Int) < ((x5_4.length : Int) : Int) := of_decide_eq_true (by first | (with_reducible assumption) | assumption)
                          obtain ⟨hx49_0, hf49_0⟩ := Kd.R_celln false HO_5.out ((rd ((rd_T47 l0_0 x8_3).f0) x9_4) : Int) p49 q49
                          replace p49 := eq_true p49
                          replace q49 := eq_true q49
                          have HP51 := Kd.R_putg HO_5.out ((rd ((rd_T47 l0_0 x8_3).f0) x9_4) : Int) true
                          go_wp2_with (first | ((with_reducible refine gate_store (t := 4) (p := 100) rfl ?_); refine store_event (t := 4) (p := 100) (v := ?vo_w52) (w1 := (wc.setCell ⟨go25, ((rd ((rd_T47 l0_0 x8_3).f0) x9_4) : Int).toNat, none⟩ (.bool true))) ?hg ?ho ?hn ?hr ?_; (case ho => rfl); (case hg => rfl); (case hn => rfl); (case hr => first | (go_simp; done) | (go_simp; rfl)); intro w52 hw; have hg : wc.grownBy w52 (some go25) := (by rw [hw]; exact HP51.2); have hp_ : Kd.R Kd.bool 4 w52 w.heap.size (fun _ => True) (.slice (some ⟨go25, 0, none⟩) x5_4.length co25) y277 := (by rw [hw, Ny277.out]; exact HP51.1); clear HP51; have n0_ := Aside0.mk (hp_); have n1_ := Aside0.mk (blk_grown (g := gb261) (o := .cells #[.slice (some ad273) l0_0.length c0_0] 24 (0, 0)) (by (with_reducible repeat (first | refine zq1 ?_ _ | refine zq2 ?_ | refine zq3 ?_ _)); exact BK261.out) hg (Kd.R_ne HO_5.out BK261.out (by decide))); have n2_ := Aside0.mk ((by rw [hw]; exact below_set (HB.out) GB25.out : Below w.heap.size w w52)); clear HO_5; clear BK261; clear HB; have HO_5 := n0_; have BK261 := n1_; have HB := n2_; clear n0_ n1_ n2_; clear hg hw hp_))
                          (try simp only [← hl5_4])
                          go_roundg kj31
                          case measure => have := HK1.out; have := HK2.out; have := HK3.out; have := HK4.out; have := HJ31.out; omega
                          case rel => exact ⟨(y277), (wrap64 (x9_4 + 1)), (by first | rfl | (simp; done) | (simp [*]; done)), H', ⟨by have := HK1.out; have := HK2.out; have := HK3.out; have := HK4.out; have := HJ31.out; omega⟩, ⟨by (try simp only [hl5_2]); (try simp only [hl5_3]); (try simp only [hl5_4]); (with_reducible repeat (first | apply Kd.R_alloc | apply Kd.R_drewN | apply Kd.R_drew)); exact HO_5.out⟩, ⟨by (try simp only [hl5_2]); (try simp only [hl5_3]); (try simp only [hl5_4]); (with_reducible repeat (first | refine zq1 ?_ _ | refine zq2 ?_ | refine zq3 ?_ _)); exact BK261.out⟩, ⟨by repeat (first | (with_reducible first | exact HB.out | apply zq5 | apply zq4 | apply zq6 | refine below_set ?_ GE261.out) | exact HB.out)⟩⟩
                         ·rw [if_neg c48] at H
                          exact absurd H (by simp)
                        ·rw [if_neg c47] at H
                         exact absurd H (by simp)
                       ·rw [if_neg c46] at H
                        have c46b0 : decide (0 < (rd ((rd_T47 l0_0 x8_3).f0) x9_4)) = false := decide_eq_false c46
                        clear c46
                        have H' := Aside0.mk H
                        clear H
                        have hcz53_0 : wc.cell? ⟨gb261, 0, none⟩ = some (.slice A0_0 l0_0.length c0_0) := (blk_cell BK261.out 0).trans rfl
                        have hfz53_0 := blk_frozen BK261.out 0
                        have p273 : 0 ≤ (x8_3 : Int) := of_decide_eq_true (by first | (with_reducible assumption) | assumption)
                        have q273 : x8_3 < (l0_0.length : Int) := of_decide_eq_true (by first | (with_reducible assumption) | assumption)
                        obtain ⟨ad273, A273_0, c273_0, A273_1, c273_1, e273, hx273_0, hx273_1, hl273_0, hi273_0, hl273_1, hi273_1⟩ := at_T47 HR0_0.out x8_3 p273 q273
                        cases e273
                        replace hx273_0 := (HB.out.cell (World.block_lt_of_cell? w _ hx273_0)).trans hx273_0
                        replace hx273_1 := (HB.out.cell (World.block_lt_of_cell? w _ hx273_1)).trans hx273_1
                        have HR273_0 := Aside0.mk hi273_0
                        have HC273_0 := Aside0.mk hl273_0
                        clear hi273_0 hl273_0
                        have HR273_1 := Aside0.mk hi273_1
                        have HC273_1 := Aside0.mk hl273_1
                        clear hi273_1 hl273_1
                        replace p273 := eq_true p273
                        replace q273 := eq_true q273
                        have p274 : 0 ≤ (x9_4 : Int) := of_decide_eq_true (by first | (with_reducible assumption) | assumption)
                        have q274 : x9_4 < (((rd_T47 l0_0 x8_3).f0).length : Int) := of_decide_eq_true (by first | (with_reducible assumption) | assumption)
                        obtain ⟨ad274, e274, hx274_0⟩ := Kd.at_int HR273_0.out x9_4 p274 q274
                        cases e274
                        replace hx274_0 := (HB.out.cell (World.block_lt_of_cell? w _ hx274_0)).trans hx274_0
                        replace p274 := eq_true p274
                        replace q274 := eq_true q274
                        go_wp2
                        (try simp only [← hl5_4])
                        go_roundg kj31
                        case measure => have := HK1.out; have := HK2.out; have := HK3.out; have := HK4.out; have := HJ31.out; omega
                        case rel => exact ⟨(x5_4), (wrap64 (x9_4 + 1)), (by first | rfl | (simp; done) | (simp [*]; done)), H', ⟨by have := HK1.out; have := HK2.out; have := HK3.out; have := HK4.out; have := HJ31.out; omega⟩, ⟨by (try simp only [hl5_2]); (try simp only [hl5_3]); (try simp only [hl5_4]); (with_reducible repeat (first | apply Kd.R_alloc | apply Kd.R_drewN | apply Kd.R_drew)); exact HO_5.out⟩, ⟨by (try simp only [hl5_2]); (try simp only [hl5_3]); (try simp only [hl5_4]); (with_reducible repeat (first | refine zq1 ?_ _ | refine zq2 ?_ | refine zq3 ?_ _)); exact BK261.out⟩, ⟨by repeat (first | (with_reducible first | exact HB.out | apply zq5 | apply zq4 | apply zq6 | refine below_set ?_ GE261.out) | exact HB.out)⟩⟩
                      ·rw [if_neg c45] at H
                       exact absurd H (by simp)
                     ·rw [if_neg c44] at H
                      exact absurd H (by simp)
                    ·rw [if_neg c43] at H
                     exact absurd H (by simp)
                   ·rw [if_neg c42] at H
                    exact absurd H (by simp)
                  ·replace c41 := Bool.eq_false_iff.mpr c41
                   subst c41
                   have H1 : (portolanref09_Reach.l2 kj31 x5_4 x7_2 (wrap64 (x8_3 + 1)) l0_0) = some r := by first | (rw [if_neg (show ¬ (false = true) by decide)] at H; exact H) | rfl
                   clear H
                   have H := H1
                   clear H1
                   have H' := Aside0.mk H
                   clear H
                   go_wp2
                   (try simp only [← hl5_3, ← hl5_4])
                   go_roundg kj31
                   case measure => have := HK1.out; have := HK2.out; have := HK3.out; have := HK4.out; have := HJ31.out; omega
                   case rel => exact ⟨(x5_4), (wrap64 (x8_3 + 1)), (by first | rfl | (simp; done) | (simp [*]; done)), H', ⟨by have := HK1.out; have := HK2.out; have := HK3.out; have := HK4.out; have := HJ31.out; omega⟩, ⟨by (try simp only [hl5_2]); (try simp only [hl5_3]); (try simp only [hl5_4]); (with_reducible repeat (first | apply Kd.R_alloc | apply Kd.R_drewN | apply Kd.R_drew)); exact HO_5.out⟩, ⟨by (try simp only [hl5_2]); (try simp only [hl5_3]); (try simp only [hl5_4]); (with_reducible repeat (first | refine zq1 ?_ _ | refine zq2 ?_ | refine zq3 ?_ _)); exact BK261.out⟩, ⟨by repeat (first | (with_reducible first | exact HB.out | apply zq5 | apply zq4 | apply zq6 | refine below_set ?_ GE261.out) | exact HB.out)⟩⟩
             ·rw [if_neg c30] at H
              have c30b0 : decide (x8_3 < (l0_0.length : Int)) = false := decide_eq_false c30
              clear c30
              have H' := Aside0.mk H
              clear H
              have hcz54_0 : wr.cell? ⟨gb261, 0, none⟩ = some (.slice A0_0 l0_0.length c0_0) := (blk_cell BK261.out 0).trans rfl
              have hfz54_0 := blk_frozen BK261.out 0
              go_wp2
              (try simp only [← hl5_2, ← hl5_3])
              go_roundg k3
              case measure => have := HK1.out; have := HK2.out; have := HK3.out; omega
              case rel => exact ⟨(x5_3), (wrap64 (x7_2 + 1)), (by first | rfl | (simp; done) | (simp [*]; done)), H', ⟨by have := HK1.out; have := HK2.out; have := HK3.out; omega⟩, ⟨by (try simp only [hl5_2]); (try simp only [hl5_3]); (with_reducible repeat (first | apply Kd.R_alloc | apply Kd.R_drewN | apply Kd.R_drew)); exact HO_5.out⟩, ⟨by (try simp only [hl5_2]); (try simp only [hl5_3]); (with_reducible repeat (first | refine zq1 ?_ _ | refine zq2 ?_ | refine zq3 ?_ _)); exact BK261.out⟩, ⟨by repeat (first | (with_reducible first | exact HB.out | apply zq5 | apply zq4 | apply zq6 | refine below_set ?_ GE261.out) | exact HB.out)⟩⟩
          ·rw [if_neg c28] at H
           have c28b0 : decide (x7_2 < (l0_0.length : Int)) = false := decide_eq_false c28
           clear c28
           have H' := Aside0.mk H
           clear H
           have hcz55_0 : wr.cell? ⟨gb261, 0, none⟩ = some (.slice A0_0 l0_0.length c0_0) := (blk_cell BK261.out 0).trans rfl
           have hfz55_0 := blk_frozen BK261.out 0
           go_wp2
           go_loopg [10, 11] k2 (fun kq v10 v11 w' => ∃ (x10_3 : List Int) (x11_3 : Int), v11 = .int .i64 x11_3 ∧ Aside0 (portolanref09_Reach.l4 kq x5_2 x10_3 x11_3 = some r) ∧ Aside0 (kq ≤ k2) ∧ Aside0 (Kd.R Kd.bool 4 w' w.heap.size (fun _ => True) (.slice (some ⟨go25, 0, none⟩) x5_2.length co25) x5_2) ∧ Aside0 (Kd.R (Kd.int .i64) 3 w' w.heap.size (fun _ => True) v10 x10_3) ∧ Aside0 (w'.heap[gb261]? = some (.cells #[(.slice A0_0 l0_0.length c0_0)] 24 (0, 0))) ∧ Aside0 (Below w.heap.size w w'))
           case atStart => exact ⟨(([] : List Int)), (1), (by first | rfl | (simp; done) | (simp [*]; done)), H', ⟨Nat.le_refl _⟩, ⟨by (try simp only [hl5_2]); (with_reducible repeat (first | apply Kd.R_alloc | apply Kd.R_drewN | apply Kd.R_drew)); exact HO_5.out⟩, ⟨by (try simp only [hl5_2]); first | exact Kd.R_nil _ _ _ _ _ | exact Kd.N_nil _ _ _ _ _ | exact Kd.V_nil _ _ _ _ _ | exact Kd.Q_nil _ _ _ _ _ | exact Kd.S_nil _ _ _ _ _⟩, ⟨by (try simp only [hl5_2]); (with_reducible repeat (first | refine zq1 ?_ _ | refine zq2 ?_ | refine zq3 ?_ _)); exact BK261.out⟩, ⟨by repeat (first | (with_reducible first | exact HB.out | apply zq5 | apply zq4 | apply zq6 | refine below_set ?_ GE261.out) | exact HB.out)⟩⟩
           case round =>
            clear H'
            try clear c1
            try clear p1
            try clear q1
            try clear hx1
            try clear c2
            try clear p2
            try clear q2
            try clear hx2
            try clear qi2
            try clear hf2
            try clear c3
            try clear c4
            try clear p4
            try clear q4
            try clear hx4
            try clear hf4
            try clear c6
            try clear c6b0
            try clear c6b1
            try clear p6
            try clear c7
            try clear c7b0
            try clear c7b1
            try clear c14
            try clear c14b0
            try clear c15
            try clear c15b0
            try clear c16
            try clear c16b0
            try clear c17
            try clear c17b0
            try clear c18
            try clear c18b0
            try clear p19
            try clear q19
            try clear hx19
            try clear hf19
            try clear c24
            try clear c24b0
            try clear c24b1
            try clear p25
            try clear q25
            try clear hx25
            try clear qi25
            try clear hf25
            try clear p26
            try clear q26
            try clear hx26
            try clear c27
            try clear p27
            try clear q27
            try clear hx27
            try clear c28
            try clear c28b0
            try clear c30
            try clear c30b0
            try clear c33
            try clear c33b0
            try clear c34
            try clear c34b0
            try clear c35
            try clear c35b0
            try clear c37
            try clear c37b0
            try clear c38
            try clear c38b0
            try clear c41
            try clear c42
            try clear c42b0
            try clear c43
            try clear c43b0
            try clear c44
            try clear c44b0
            try clear c45
            try clear c45b0
            try clear c46
            try clear c46b0
            try clear c47
            try clear c47b0
            try clear c48
            try clear c48b0
            try clear p49
            try clear q49
            try clear hx49
            try clear hf49
            try clear hcz11_0
            try clear hcz29_0
            try clear hcz31_0
            try clear hcz39_0
            try clear hcz40_0
            try clear hcz50_0
            try clear hcz53_0
            try clear hcz54_0
            try clear hcz55_0
            try clear hcz9_0
            try clear hfz11_0
            try clear hfz29_0
            try clear hfz31_0
            try clear hfz39_0
            try clear hfz40_0
            try clear hfz50_0
            try clear hfz53_0
            try clear hfz54_0
            try clear hfz55_0
            try clear hfz9_0
            try clear hx19_0
            try clear hx25_0
            try clear hx266_0
            try clear hx267_0
            try clear hx268_0
            try clear hx271_0
            try clear hx271_1
            try clear hx272_0
            try clear hx273_0
            try clear hx273_1
            try clear hx274_0
            try clear hx275_0
            try clear hx275_1
            try clear hx276_0
            try clear hx49_0
            try clear p1
            try clear p19
            try clear p2
            try clear p25
            try clear p26
            try clear p266
            try clear p267
            try clear p268
            try clear p27
            try clear p271
            try clear p272
            try clear p273
            try clear p274
            try clear p275
            try clear p276
            try clear p49
            try clear p6
            try clear q1
            try clear q19
            try clear q2
            try clear q25
            try clear q26
            try clear q266
            try clear q267
            try clear q268
            try clear q27
            try clear q271
            try clear q272
            try clear q273
            try clear q274
            try clear q275
            try clear q276
            try clear q49
            obtain ⟨x10_3, x11_3, rfl, HA, HK3, HO_5, HO_10, BK261, HB⟩ := hrel
            cases gk with
            | zero => exact absurd HA.out (by simp [portolanref09_Reach.l4])
            | succ k3 =>
             have H := HA.out
             clear HA
             simp only [portolanref09_Reach.l4] at H
             by_cases c56 : x11_3 < (x5_2.length : Int)
             ·rw [if_pos c56] at H
              have c56b0 : decide (x11_3 < (x5_2.length : Int)) = true := decide_eq_true c56
              clear c56
              by_cases c57 : 0 ≤ x11_3
              ·rw [if_pos c57] at H
               have c57b0 : decide (0 ≤ x11_3) = true := decide_eq_true c57
               clear c57
               obtain ⟨bq58, hbq58⟩ : ∃ b_ : Bool, b_ = (rdOf false x5_2 x11_3) := ⟨_, rfl⟩
               replace H : (if bq58 = true then (if x10_3.length < 17592186044416 then (portolanref09_Reach.l4 k3 x5_2 (x10_3 ++ [x11_3]) (wrap64 (x11_3 + 1))) else (none)) else (portolanref09_Reach.l4 k3 x5_2 x10_3 (wrap64 (x11_3 + 1)))) = some r := by rw [← hbq58] at H; exact H
               have Nbq58 := Aside0.mk hbq58
               clear hbq58
               by_cases c59 : bq58 = true
               ·subst c59
                have H1 : (if x10_3.length < 17592186044416 then (portolanref09_Reach.l4 k3 x5_2 (x10_3 ++ [x11_3]) (wrap64 (x11_3 + 1))) else (none)) = some r := by first | (rw [if_pos rfl] at H; exact H) | rfl
                clear H
                have H := H1
                clear H1
                by_cases c60 : x10_3.length < 17592186044416
                ·rw [if_pos c60] at H
                 have LMc60 := Aside0.mk c60
                 clear c60
                 obtain ⟨y279, hy279⟩ : ∃ y_ : List Int, y_ = (x10_3 ++ [x11_3]) := ⟨_, rfl⟩
                 replace H : (portolanref09_Reach.l4 k3 x5_2 y279 (wrap64 (x11_3 + 1))) = some r := by first | (rw [hy279]; with_reducible exact H) | (have H2_ := (Option.bind_some _ _).symm.trans H; rw [hy279]; with_reducible exact H2_) | (have H2_ := (Option.bind_some _ _).symm.trans H; with_reducible exact H2_) | with_reducible exact H | (rw [hy279]; exact H) | exact H
                 have Ny279 := Aside0.mk hy279
                 clear hy279
                 have H' := Aside0.mk H
                 clear H
                 have p278 : 0 ≤ (x11_3 : Int) := of_decide_eq_true (by first | (with_reducible assumption) | assumption)
                 have q278 : x11_3 < (x5_2.length : Int) := of_decide_eq_true (by first | (with_reducible assumption) | assumption)
                 obtain ⟨ad278, e278, hx278_0⟩ := Kd.at_bool (Kd.R_reads' HO_5.out).2.2 x11_3 p278 q278
                 (try rw [← Nbq58.out] at hx278_0)
                 obtain rfl : (⟨go25, 0, none⟩ : Addr) = ad278 := (by injection e278)
                 (first | simp only [add_plain] at hx278_0 | simp only [add_at] at hx278_0 | simp only [Addr.add, Nat.zero_add] at hx278_0 | skip)
                 replace p278 := eq_true p278
                 replace q278 := eq_true q278
                 go_wp2_with (first | ((with_reducible refine gate_builtin (b := .append) (xs := #[.tmp 111, .tmp 113]) rfl ?_); (try (refine gate_guard (by rfl) ?_; dsimp only)); at_builtin; refine Kd.R_append (Kd.int .i64) (w0 := w) w.heap.size rfl (.tmp 111) (.tmp 113) 26 3 (.int .i64 0) 8 rfl Try.underlying26 info3 rfl (by decide) (by omega) u10 x10_3 x11_3 [.int .i64 x11_3] (fun _ => True) (fun _ => False) rfl rfl ?aP (fun _ hk => hk.elim) ?aF ?aO ?aB ?aS ?aL ?_; (case aP => exact rfl); (case aB => exact (by repeat (first | (with_reducible first | exact HB.out | apply zq5 | apply zq4 | apply zq6 | refine below_set ?_ GE261.out) | exact HB.out))); (case aF => exact (fun _ _ => trivial)); (case aO => exact (by (with_reducible repeat (first | apply Kd.R_alloc | apply Kd.R_drewN | apply Kd.R_drew)); exact HO_10.out)); (case aS => exact (below_size (by repeat (first | (with_reducible first | exact HB.out | apply zq5 | apply zq4 | apply zq6 | refine below_set ?_ GE261.out) | exact HB.out)))); (case aL => have := LMc60.out; omega); intro v280 w61 ho hb hg hat; rw [← Ny279.out] at ho; have n0_ := Aside0.mk (Kd.R_over' (by (with_reducible repeat (first | apply Kd.R_alloc | apply Kd.R_drewN | apply Kd.R_drew)); exact HO_5.out) (Kd.R_typed (by (with_reducible repeat (first | apply Kd.R_alloc | apply Kd.R_drewN | apply Kd.R_drew)); exact HO_10.out)) (by decide) hg); have n1_ := Aside0.mk (blk_grown (g := gb261) (o := .cells #[.slice A0_0 l0_0.length c0_0] 24 (0, 0)) (by (with_reducible repeat (first | refine zq1 ?_ _ | refine zq2 ?_ | refine zq3 ?_ _)); exact BK261.out) hg (Kd.R_ne HO_10.out BK261.out (by decide))); have n2_ := Aside0.mk (hb); have n3_ := Aside0.mk (ho); clear HO_5; clear BK261; clear HB; clear HO_10; have HO_5 := n0_; have BK261 := n1_; have HB := n2_; have HO281 := n3_; clear n0_ n1_ n2_ n3_; clear ho hb hg hat))
                 go_roundg k3
                 case measure => have := HK1.out; have := HK2.out; have := HK3.out; omega
                 case rel => exact ⟨(y279), (wrap64 (x11_3 + 1)), (by first | rfl | (simp; done) | (simp [*]; done)), H', ⟨by have := HK1.out; have := HK2.out; have := HK3.out; omega⟩, ⟨by (try simp only [hl5_2]); (with_reducible repeat (first | apply Kd.R_alloc | apply Kd.R_drewN | apply Kd.R_drew)); exact HO_5.out⟩, ⟨by (try simp only [hl5_2]); (with_reducible repeat (first | apply Kd.R_alloc | apply Kd.R_drewN | apply Kd.R_drew)); exact HO281.out⟩, ⟨by (try simp only [hl5_2]); (with_reducible repeat (first | refine zq1 ?_ _ | refine zq2 ?_ | refine zq3 ?_ _)); exact BK261.out⟩, ⟨by repeat (first | (with_reducible first | exact HB.out | apply zq5 | apply zq4 | apply zq6 | refine below_set ?_ GE261.out) | exact HB.out)⟩⟩
                ·rw [if_neg c60] at H
                 exact absurd H (by simp)
               ·replace c59 := Bool.eq_false_iff.mpr c59
                subst c59
                have H1 : (portolanref09_Reach.l4 k3 x5_2 x10_3 (wrap64 (x11_3 + 1))) = some r := by first | (rw [if_neg (show ¬ (false = true) by decide)] at H; exact H) | rfl
                clear H
                have H := H1
                clear H1
                have H' := Aside0.mk H
                clear H
                have p278 : 0 ≤ (x11_3 : Int) := of_decide_eq_true (by first | (with_reducible assumption) | assumption)
                have q278 : x11_3 < (x5_2.length : Int) := of_decide_eq_true (by first | (with_reducible assumption) | assumption)
                obtain ⟨ad278, e278, hx278_0⟩ := Kd.at_bool (Kd.R_reads' HO_5.out).2.2 x11_3 p278 q278
                (try rw [← Nbq58.out] at hx278_0)
                obtain rfl : (⟨go25, 0, none⟩ : Addr) = ad278 := (by injection e278)
                (first | simp only [add_plain] at hx278_0 | simp only [add_at] at hx278_0 | simp only [Addr.add, Nat.zero_add] at hx278_0 | skip)
                replace p278 := eq_true p278
                replace q278 := eq_true q278
                go_wp2
                go_roundg k3
                case measure => have := HK1.out; have := HK2.out; have := HK3.out; omega
                case rel => exact ⟨(x10_3), (wrap64 (x11_3 + 1)), (by first | rfl | (simp; done) | (simp [*]; done)), H', ⟨by have := HK1.out; have := HK2.out; have := HK3.out; omega⟩, ⟨by (try simp only [hl5_2]); (with_reducible repeat (first | apply Kd.R_alloc | apply Kd.R_drewN | apply Kd.R_drew)); exact HO_5.out⟩, ⟨by (try simp only [hl5_2]); (with_reducible repeat (first | apply Kd.R_alloc | apply Kd.R_drewN | apply Kd.R_drew)); exact HO_10.out⟩, ⟨by (try simp only [hl5_2]); (with_reducible repeat (first | refine zq1 ?_ _ | refine zq2 ?_ | refine zq3 ?_ _)); exact BK261.out⟩, ⟨by repeat (first | (with_reducible first | exact HB.out | apply zq5 | apply zq4 | apply zq6 | refine below_set ?_ GE261.out) | exact HB.out)⟩⟩
              ·rw [if_neg c57] at H
               exact absurd H (by simp)
             ·rw [if_neg c56] at H
              have c56b0 : decide (x11_3 < (x5_2.length : Int)) = false := decide_eq_false c56
              clear c56
              obtain rfl := Option.some.inj H
              go_wp2
              go_ret
              exact ⟨_, by first | rfl | (simp [errW_none, errW_some] <;> rfl) | (simp only [← hji5]; first | rfl | (simp [errW_none, errW_some] <;> rfl)) | (simp [*, errW_none, errW_some] <;> rfl), by (with_reducible repeat (first | apply Kd.R_alloc | apply Kd.R_drewN | apply Kd.R_drew)); exact HO_10.out, by repeat (first | (with_reducible first | exact HB.out | apply zq5 | apply zq4 | apply zq6 | refine below_set ?_ GE261.out) | exact HB.out)⟩
       ·rw [if_neg c24] at H
        exact absurd H (by simp)
   ·rw [if_neg c7] at H
    exact absurd H (by simp)
  ·rw [if_neg c6] at H
   exact absurd H (by simp)
 ·replace c4 := Bool.eq_false_iff.mpr c4
  subst c4
  have H1 : (some ([] : List Int)) = some r := by first | (rw [if_neg (show ¬ (false = true) by decide)] at H; exact H) | rfl
  clear H
  have H := H1
  clear H1
  obtain rfl := Option.some.inj H
  go_enter Try.func17, Try.ntmps17
  go_wp2_with (first | ((with_reducible refine gate_dst (N := 2) rfl ?_); (try (refine gate_guard (by rfl) ?_; dsimp only)); refine box_event ?hg (N := 2) ?hd (cs := #[.slice A0_0 l0_0.length c0_0]) (t := 24) ?hr ?_; (case hd => rfl); (case hg => rfl); (case hr => first | (go_simp; done) | (go_simp; rfl)); intro gb261 hg w62 hbox hb; have n0_ := Aside0.mk (below_step (by repeat (first | (with_reducible first | exact HB.out | apply zq5 | apply zq4 | apply zq6) | exact HB.out)) hb); have n1_ := Aside0.mk (hbox); have n2_ := Aside0.mk ((by rw [hg]; exact (below_size (by repeat (first | (with_reducible first | exact HB.out | apply zq5 | apply zq4 | apply zq6) | exact HB.out))) : w.heap.size ≤ gb261)); have n3_ := Aside0.mk ((by rw [hg]; exact (below_size (by repeat (first | (with_reducible first | exact HB.out | apply zq5 | apply zq4 | apply zq6) | exact HB.out))) : w.heap.size ≤ gb261)); clear HB; have HB := n0_; have BK261 := n1_; have GW261 := n2_; have GE261 := n3_; clear n0_ n1_ n2_ n3_; clear hb hbox hg; have hcz63_0 : w62.cell? ⟨gb261, 0, none⟩ = some (.slice A0_0 l0_0.length c0_0) := (blk_cell BK261.out 0).trans rfl; have hfz63_0 := blk_frozen BK261.out 0) | ((with_reducible refine gate_callee (f := 14) rfl ?_); refine goesL_ (some 13) rfl rfl Try.func14 (by kernel_rfl) rfl #[.agg #[.slice A0_0 l0_0.length c0_0]] rfl (by (try simp only [List.map_toArray, List.map_cons, List.map_nil]); first | done | rfl | (simp only [List.length_drop, List.length_take]; rfl)) ?_; (with_reducible refine (portolanref09_Right.calls k _ _ l0_0 false _ ?side1 ?side2 A3.out).mono ?_); (case side1 => repeat (first | exact (Kd.C_below HR0_0.out HB.out) | (with_reducible refine Kd.C_alloc ?_ _) | (with_reducible refine Kd.C_drewN ?_ _) | (with_reducible refine Kd.C_drew ?_))); (case side2 => exact HC0_0.out); rintro e w64 ⟨rfl, hb⟩; refine ⟨_, rfl, ?_⟩; have n0_ := Aside0.mk (blk_below (g := gb261) (o := .cells #[.slice A0_0 l0_0.length c0_0] 24 (0, 0)) (by (with_reducible repeat (first | refine zq1 ?_ _ | refine zq2 ?_ | refine zq3 ?_ _)); exact BK261.out) hb); have n1_ := Aside0.mk (below_step (by repeat (first | (with_reducible first | exact HB.out | apply zq5 | apply zq4 | apply zq6 | refine below_set ?_ GE261.out) | exact HB.out)) hb); clear BK261; clear HB; have BK261 := n0_; have HB := n1_; clear n0_ n1_; (try clear hb); (try clear hb2); (try clear hk); (try clear hi)))
  go_ret
  exact ⟨_, by first | rfl | (simp [errW_none, errW_some] <;> rfl) | (simp [*, errW_none, errW_some] <;> rfl), by first | exact Kd.R_nil _ _ _ _ _ | exact Kd.N_nil _ _ _ _ _ | exact Kd.V_nil _ _ _ _ _ | exact Kd.Q_nil _ _ _ _ _ | exact Kd.S_nil _ _ _ _ _, by repeat (first | (with_reducible first | exact HB.out | apply zq5 | apply zq4 | apply zq6 | refine below_set ?_ GE261.out) | exact HB.out)⟩

end Go.Proofs.Ytfnpaacoijfbfaa.PX
