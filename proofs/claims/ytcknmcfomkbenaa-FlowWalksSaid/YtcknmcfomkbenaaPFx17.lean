import Derived.Test.YtcknmcfomkbenaaPFx0
import Derived.Test.YtcknmcfomkbenaaPFx2
import Derived.Test.YtcknmcfomkbenaaPFx3
import Derived.Test.YtcknmcfomkbenaaPFx10
import Derived.Test.YtcknmcfomkbenaaPFx14
import Derived.Test.YtcknmcfomkbenaaPFx16
namespace Go.Proofs.Ytcknmcfomkbenaa.PF
open Go.RowKit Go.Proofs.YtcknmcfomkbenaaW.PrintWords Go.Proofs.YtcknmcfomkbenaaW.PrintLast Go.Proofs.YtcknmcfomkbenaaW.PrintMore
attribute [local go_sem] max2_int min2_int max_two min_two max_three min_three max_four min_four   -- for this text's walks alone
set_option linter.unusedVariables false
set_option linter.unusedSimpArgs false
def portolanref05_Order.l0 : Nat → List Int → List Int → Int → Option (List Int)
 | 0, _, _, _ => none
 | k + 1, x3, x4, x5 => if x5 > 0 then (if 0 ≤ (wrap64 (x5 - 1)) then (if (wrap64 (x5 - 1)) < (x3.length : Int) then (if x4.length < 17592186044416 then (portolanref05_Order.l0 k x3 (x4 ++ [rd x3 (wrap64 (x5 - 1))]) (wrap64 (x5 - 1))) else (none)) else (none)) else (none)) else (some x4)
def portolanref05_Order.f (k : Nat) (l0_0 : List Int) (l0_1 : List Int) (a0_2 : Int) (a0_3 : Int) (l0_4 : List (S50)) : Option (List Int) := if 0 ≤ (l0_4.length : Int) then (if ((l0_4.length : Int) : Int).toNat ≤ 281474976710656 then ((portolanref05_walk.f k l0_0 l0_1 a0_2 a0_3 l0_4 0 (List.replicate ((l0_4.length : Int) : Int).toNat false) ([] : List Int)).bind fun bt397 => (portolanref05_Order.l0 k bt397.1 ([] : List Int) (bt397.1.length : Int))) else (none)) else (none)
set_option maxHeartbeats 8000000 in
set_option maxRecDepth 100000 in
theorem portolanref05_Order.calls (k : Nat) (A0_0 : Option Addr) (c0_0 : Nat) (l0_0 : List Int) (A0_1 : Option Addr) (c0_1 : Nat) (l0_1 : List Int) (a0_2 : Int) (a0_3 : Int) (A0_4 : Option Addr) (c0_4 : Nat) (l0_4 : List (S50)) (r : List Int) (w : World) (hr0_0 : Kd.C (Kd.int .i64) w A0_0 l0_0.length l0_0) (hc0_0 : l0_0.length ≤ c0_0) (hr0_1 : Kd.C (Kd.int .i64) w A0_1 l0_1.length l0_1) (hc0_1 : l0_1.length ≤ c0_1) (hr0_4 : Kd.C k50 w A0_4 l0_4.length l0_4) (hc0_4 : l0_4.length ≤ c0_4) (h : portolanref05_Order.f k l0_0 l0_1 a0_2 a0_3 l0_4 = some r) :
  Calls Try.prog 31 #[.agg #[.slice A0_0 l0_0.length c0_0, .slice A0_1 l0_1.length c0_1, .int .i64 a0_2, .int .i64 a0_3, .slice A0_4 l0_4.length c0_4]] w fun e w' => ∃ v0_ : Value, e = .returned (v0_) ∧ Kd.R (Kd.int .i64) 3 w' w.heap.size (fun _ => True) v0_ r ∧ Below w.heap.size w w' := by
 have hu30 := Try.underlying30
 have HR0_0 := Aside0.mk hr0_0
 have HC0_0 := Aside0.mk hc0_0
 clear hr0_0 hc0_0
 have HR0_1 := Aside0.mk hr0_1
 have HC0_1 := Aside0.mk hc0_1
 clear hr0_1 hc0_1
 have HR0_4 := Aside0.mk hr0_4
 have HC0_4 := Aside0.mk hc0_4
 clear hr0_4 hc0_4
 have HB := Aside0.mk (Below.refl w.heap.size w)
 have H : (if 0 ≤ (l0_4.length : Int) then (if ((l0_4.length : Int) : Int).toNat ≤ 281474976710656 then ((portolanref05_walk.f k l0_0 l0_1 a0_2 a0_3 l0_4 0 (List.replicate ((l0_4.length : Int) : Int).toNat false) ([] : List Int)).bind fun bt397 => (portolanref05_Order.l0 k bt397.1 ([] : List Int) (bt397.1.length : Int))) else (none)) else (none)) = some r := h
 clear h
 by_cases c2 : 0 ≤ (l0_4.length : Int)
 ·rw [if_pos c2] at H
  have c2b0 := eq_true c2
  have c2b1 : decide (0 ≤ (l0_4.length : Int)) = true := decide_eq_true c2
  clear c2
  by_cases c3 : ((l0_4.length : Int) : Int).toNat ≤ 281474976710656
  ·rw [if_pos c3] at H
   have c3b0 := eq_true c3
   have c3b1 : decide (((l0_4.length : Int) : Int).toNat ≤ 281474976710656) = true := decide_eq_true c3
   clear c3
   obtain ⟨y394, hy394⟩ : ∃ y_ : List Bool, y_ = (List.replicate ((l0_4.length : Int) : Int).toNat false) := ⟨_, rfl⟩
   replace H : ((portolanref05_walk.f k l0_0 l0_1 a0_2 a0_3 l0_4 0 y394 ([] : List Int)).bind fun bt397 => (portolanref05_Order.l0 k bt397.1 ([] : List Int) (bt397.1.length : Int))) = some r := by first | (rw [hy394]; with_reducible exact H) | (have H2_ := (Option.bind_some _ _).symm.trans H; rw [hy394]; with_reducible exact H2_) | (have H2_ := (Option.bind_some _ _).symm.trans H; with_reducible exact H2_) | with_reducible exact H | (rw [hy394]; exact H) | exact H
   have Ny394 := Aside0.mk hy394
   clear hy394
   replace H := Option.bind_eq_some_iff.mp H
   obtain ⟨⟨t397, t400⟩, A40, H⟩ := H
   replace H : (portolanref05_Order.l0 k t397 ([] : List Int) (t397.length : Int)) = some r := H
   have A4 := Aside0.mk A40
   clear A40
   have H' := Aside0.mk H
   clear H
   go_enter Try.func31, Try.ntmps31
   try go_wp2_with (first | ((with_reducible refine gate_dst (N := 1) rfl ?_); refine box_event ?hg (N := 1) ?hd (cs := #[.slice A0_0 l0_0.length c0_0, .slice A0_1 l0_1.length c0_1, .int .i64 a0_2, .int .i64 a0_3, .slice A0_4 l0_4.length c0_4]) (t := 30) ?hr ?_; (case hd => rfl); (case hg => rfl); (case hr => first | (go_simp; done) | (go_simp; rfl)); intro gb393 hg w5 hbox hb; have n0_ := Aside0.mk (below_step (by repeat (first | (with_reducible first | exact HB.out | apply zq5 | apply zq4 | apply zq6) | exact HB.out)) hb); have n1_ := Aside0.mk (hbox); have n2_ := Aside0.mk ((by rw [hg]; exact (below_size (by repeat (first | (with_reducible first | exact HB.out | apply zq5 | apply zq4 | apply zq6) | exact HB.out))) : w.heap.size ≤ gb393)); have n3_ := Aside0.mk ((by rw [hg]; exact (below_size (by repeat (first | (with_reducible first | exact HB.out | apply zq5 | apply zq4 | apply zq6) | exact HB.out))) : w.heap.size ≤ gb393)); clear HB; have HB := n0_; have BK393 := n1_; have GW393 := n2_; have GE393 := n3_; clear n0_ n1_ n2_ n3_; clear hb hbox hg))
   have n0_ := Aside0.mk (blk_drew BK393.out)
   have n1_ := Aside0.mk (below_drew1 HB.out)
   clear BK393
   clear HB
   have BK393 := n0_
   have HB := n1_
   clear n0_ n1_
   refine start_ (n := 7) (S := fun w' => w'.cell? ⟨gb393, 0, none⟩ = some (.slice A0_0 l0_0.length c0_0) ∧ w'.cell? ⟨gb393, 1, none⟩ = some (.slice A0_1 l0_1.length c0_1) ∧ w'.cell? ⟨gb393, 2, none⟩ = some (.int .i64 a0_2) ∧ w'.cell? ⟨gb393, 3, none⟩ = some (.int .i64 a0_3) ∧ w'.cell? ⟨gb393, 4, none⟩ = some (.slice A0_4 l0_4.length c0_4)) (ds := []) #[false, false, false, false, false, false, false] (by kernel_rfl) rfl rfl ⟨(blk_cell BK393.out 0).trans rfl, (blk_cell BK393.out 1).trans rfl, (blk_cell BK393.out 2).trans rfl, (blk_cell BK393.out 3).trans rfl, (blk_cell BK393.out 4).trans rfl⟩ (fun hHeld => ?_)
   generalize w5.drew = w6 at BK393 HB hHeld ⊢
   refine pure_ (i := 1) (N := some 7) (v := ?_) (a' := ?_) #[false, true, false, false, false, false, false] rfl rfl (by kernel_rfl) (fun _ _ _ h => h) (Or.inl ⟨by rfl, ?_⟩) ?_ ?_
   rotate_left
   ·intro w'
    go_simp
    with_reducible rfl
   rotate_left
   ·simp only [Act.put, List.setIfInBounds_toArray, List.set_cons_zero, List.set_cons_succ, i64_w, i32_w]
    rfl
   refine take_ (i := 0) (N := some 6) (v := ?_) (a' := ?_) #[true, true, false, false, false, false, false] rfl rfl (by kernel_rfl) (fun _ _ _ h => h) (Or.inl ⟨by rfl, ?_⟩) hHeld ?_ ?_
   rotate_left
   ·rintro w' ⟨s0, s1, s2, s3, s4⟩
    go_simp
    with_reducible rfl
   rotate_left
   ·simp only [Act.put, List.setIfInBounds_toArray, List.set_cons_zero, List.set_cons_succ, i64_w, i32_w]
    rfl
   refine take_ (i := 2) (N := some 8) (v := ?_) (a' := ?_) #[true, true, true, false, false, false, false] rfl rfl (by kernel_rfl) (fun _ _ _ h => h) (Or.inl ⟨by rfl, ?_⟩) hHeld ?_ ?_
   rotate_left
   ·rintro w' ⟨s0, s1, s2, s3, s4⟩
    go_simp
    with_reducible rfl
   rotate_left
   ·simp only [Act.put, List.setIfInBounds_toArray, List.set_cons_zero, List.set_cons_succ, i64_w, i32_w]
    rfl
   refine pure_ (i := 3) (N := some 9) (v := ?_) (a' := ?_) #[true, true, true, true, false, false, false] rfl rfl (by kernel_rfl) (fun _ _ _ h => h) (Or.inl ⟨by rfl, ?_⟩) ?_ ?_
   rotate_left
   ·intro w'
    go_simp
    with_reducible rfl
   rotate_left
   ·simp only [Act.put, List.setIfInBounds_toArray, List.set_cons_zero, List.set_cons_succ, i64_w, i32_w]
    rfl
   refine one_ (i := 4) (N := some 10) #[true, true, true, true, true, false, false] rfl rfl (by kernel_rfl) (by decide) (fun K hK => ?_)
   refine Kd.R_make_step Kd.bool _ 4 (by rfl) (N := 10) rfl 43 _ _ rfl (l0_4.length : Int) rfl rfl Try.underlying43 (.bool false) 1 info4 rfl (by decide) (by omega) false (ok := fun _ => True) (okp := fun _ => True) rfl (fun _ hk => hk) trivial (of_decide_eq_true (by first | (with_reducible assumption) | assumption)) (Nat.le_trans (Nat.mul_le_mul_right _ (of_decide_eq_true (by first | (with_reducible assumption) | assumption) : (l0_4.length : Int).toNat ≤ 281474976710656)) (by omega)) (Below.refl _ _) (Nat.le_refl _) ?_
   intro v395 w7 ho8 hb hg_ hnew_
   clear hg_ hnew_
   (first | rw [← Ny394.out] at ho8 | (simp only [Int.reduceToNat] at ho8; rw [← Ny394.out] at ho8))
   have n0_ := Aside0.mk (Kd.R_lower ho8 (below_size (by repeat (first | (with_reducible first | exact HB.out | apply zq5 | apply zq4 | apply zq6 | refine below_set ?_ GE393.out) | exact HB.out))))
   have n1_ := Aside0.mk (blk_below (g := gb393) (o := .cells #[.slice A0_0 l0_0.length c0_0, .slice A0_1 l0_1.length c0_1, .int .i64 a0_2, .int .i64 a0_3, .slice A0_4 l0_4.length c0_4] 30 (0, 0)) (by (with_reducible repeat (first | refine zq1 ?_ _ | refine zq2 ?_ | refine zq3 ?_ _)); exact BK393.out) hb)
   have n2_ := Aside0.mk (below_step (by repeat (first | (with_reducible first | exact HB.out | apply zq5 | apply zq4 | apply zq6 | refine below_set ?_ GE393.out) | exact HB.out)) hb)
   clear BK393
   clear HB
   have HO396 := n0_
   have BK393 := n1_
   have HB := n2_
   clear n0_ n1_ n2_
   clear hb ho8
   obtain ⟨Ao9, co9, eo9⟩ := Kd.R_slice HO396.out
   (first | subst eo9 | (injection eo9 with f1_ f2_ f3_; have f4_ := f1_.symm; have f5_ := f3_.symm; clear f1_ f2_ f3_; subst f4_; subst f5_))
   refine hK.out _ _ ⟨(blk_cell BK393.out 0).trans rfl, (blk_cell BK393.out 1).trans rfl, (blk_cell BK393.out 2).trans rfl, (blk_cell BK393.out 3).trans rfl, (blk_cell BK393.out 4).trans rfl⟩ (fun hHeld => ?_)
   clear hK K
   refine norm_ (a' := ?_) ?_ ?_
   rotate_left
   ·show Act.put _ (some 10) _ = _
    simp only [Act.put, List.setIfInBounds_toArray, List.set_cons_zero, List.set_cons_succ, i64_w, i32_w]
    rfl
   refine one_ (i := 5) (N := some 11) #[true, true, true, true, true, true, false] rfl rfl (by kernel_rfl) (by decide) (fun K hK => ?_)
   refine goes_ Try.func65 (by kernel_rfl) rfl #[.agg #[.slice A0_0 l0_0.length c0_0, .slice A0_1 l0_1.length c0_1, .int .i64 a0_2, .int .i64 a0_3, .slice A0_4 l0_4.length c0_4], .int .i64 0, .slice Ao9 y394.length co9, .slice none 0 0] (by rfl) rfl rfl (by (try simp only [List.map_toArray, List.map_cons, List.map_nil]); first | done | rfl | (simp only [List.length_drop, List.length_take]; rfl)) ?_
   refine (portolanref05_walk.calls k _ _ l0_0 _ _ l0_1 a0_2 a0_3 _ _ l0_4 0 (fun k_ => some k_ = (.slice Ao9 y394.length co9 : Value).ownBlock) (.slice Ao9 y394.length co9) y394 (fun k_ => some k_ = (.slice none 0 0 : Value).ownBlock) (.slice none 0 0) ([] : List Int) t397 t400 w _ ?side1 ?side2 ?side3 ?side4 ?side5 ?side6 ?side7 ?side8 ?side9 A4.out).mono ?_
   (case side1 => repeat (first | (with_reducible first | exact HB.out | apply zq5 | apply zq4 | apply zq6 | refine below_set ?_ GE393.out) | exact HB.out))
   (case side2 => exact Kd.C_kept_came (Kd.heap_int .i64) HR0_0.out (by repeat (first | (with_reducible first | exact HB.out | apply zq5 | apply zq4 | apply zq6 | refine below_set ?_ GE393.out) | exact HB.out)) (fun k_ hs_ => Or.elim hs_ (fun e_ => (fun e_ => Kd.R_base HO396.out k_ e_.symm) e_) (fun e_ => (fun e_ => by simp [Value.ownBlock] at e_) e_)))
   (case side3 => exact HC0_0.out)
   (case side4 => exact Kd.C_kept_came (Kd.heap_int .i64) HR0_1.out (by repeat (first | (with_reducible first | exact HB.out | apply zq5 | apply zq4 | apply zq6 | refine below_set ?_ GE393.out) | exact HB.out)) (fun k_ hs_ => Or.elim hs_ (fun e_ => (fun e_ => Kd.R_base HO396.out k_ e_.symm) e_) (fun e_ => (fun e_ => by simp [Value.ownBlock] at e_) e_)))
   (case side5 => exact HC0_1.out)
   (case side6 => exact Kd.C_kept_came k50_heap HR0_4.out (by repeat (first | (with_reducible first | exact HB.out | apply zq5 | apply zq4 | apply zq6 | refine below_set ?_ GE393.out) | exact HB.out)) (fun k_ hs_ => Or.elim hs_ (fun e_ => (fun e_ => Kd.R_base HO396.out k_ e_.symm) e_) (fun e_ => (fun e_ => by simp [Value.ownBlock] at e_) e_)))
   (case side7 => exact HC0_4.out)
   (case side8 => exact Kd.R_tight rfl HO396.out)
   (case side9 => exact Kd.R_nil _ _ _ _ _)
   rintro e w10 ⟨v398, rfl, ho0, hy0, hb, hkp⟩
   refine ⟨_, rfl, ?_⟩
   have n0_ := Aside0.mk (blk_kept (by (with_reducible repeat (first | refine zq1 ?_ _ | refine zq2 ?_ | refine zq3 ?_ _)); exact BK393.out) hkp (fun hs_ => Or.elim hs_ (fun e_ => (fun e_ => (Kd.R_ne HO396.out BK393.out (by decide)) e_) e_) (fun e_ => (fun e_ => by simp [Value.ownBlock] at e_) e_)))
   have n1_ := Aside0.mk (Kd.R_reok rfl hy0 (fun k_ e_ => HO396.out.1 k_ e_))
   have n2_ := Aside0.mk (Kd.R_mono (ok' := fun k_ => True) ho0 (fun k_ hk_ => trivial))
   have n3_ := Aside0.mk (hb)
   clear BK393
   clear HO396
   clear HB
   have BK393 := n0_
   have HO396 := n1_
   have HO399 := n2_
   have HB := n3_
   clear n0_ n1_ n2_ n3_
   (try clear hb)
   (try clear hkp)
   (try clear ho0)
   (try clear hy0)
   refine hK.out _ _ ⟨(blk_cell BK393.out 0).trans rfl, (blk_cell BK393.out 1).trans rfl, (blk_cell BK393.out 2).trans rfl, (blk_cell BK393.out 3).trans rfl, (blk_cell BK393.out 4).trans rfl⟩ (fun hHeld => ?_)
   clear hK K
   refine norm_ (a' := ?_) ?_ ?_
   rotate_left
   ·show Act.put _ (some 11) _ = _
    simp only [Act.put, List.setIfInBounds_toArray, List.set_cons_zero, List.set_cons_succ, i64_w, i32_w]
    rfl
   refine pure_ (i := 6) (N := some 3) (v := ?_) (a' := ?_) #[true, true, true, true, true, true, true] rfl rfl (by kernel_rfl) (fun _ _ _ h => h) (Or.inl ⟨by rfl, ?_⟩) ?_ ?_
   rotate_left
   ·intro w'
    go_simp
    with_reducible rfl
   rotate_left
   ·simp only [Act.put, List.setIfInBounds_toArray, List.set_cons_zero, List.set_cons_succ, i64_w, i32_w]
    rfl
   refine done_ (by kernel_rfl) ?_
   obtain ⟨Ao11, co11, eo11⟩ := Kd.R_slice HO399.out
   subst eo11
   try go_wp2
   go_loopg [4, 5] k (fun kq v4 v5 w' => ∃ (x4_1 : List Int) (x5_1 : Int), v5 = .int .i64 x5_1 ∧ Aside0 (portolanref05_Order.l0 kq t397 x4_1 x5_1 = some r) ∧ Aside0 (kq ≤ k) ∧ Aside0 (Kd.R (Kd.int .i64) 3 w' w.heap.size (fun k_ => some k_ ≠ (v4 : Value).ownBlock) (.slice Ao11 t397.length co11) t397) ∧ Aside0 (Kd.R (Kd.int .i64) 3 w' w.heap.size (fun k_ => some k_ ≠ ((.slice Ao11 t397.length co11) : Value).ownBlock) v4 x4_1) ∧ Aside0 (w'.heap[gb393]? = some (.cells #[(.slice A0_0 l0_0.length c0_0), (.slice A0_1 l0_1.length c0_1), .int .i64 a0_2, .int .i64 a0_3, (.slice A0_4 l0_4.length c0_4)] 30 (0, 0))) ∧ Aside0 (Below w.heap.size w w'))
   case atStart => exact ⟨(([] : List Int)), ((t397.length : Int)), (by first | rfl | (simp; done) | (simp [*]; done)), H', ⟨Nat.le_refl _⟩, ⟨by (with_reducible repeat (first | apply Kd.R_alloc | apply Kd.R_drewN | apply Kd.R_drew)); exact Kd.R_mono HO399.out (fun _ hk => (by simp [Value.ownBlock]))⟩, ⟨by first | exact Kd.R_nil _ _ _ _ _ | exact Kd.N_nil _ _ _ _ _ | exact Kd.V_nil _ _ _ _ _ | exact Kd.Q_nil _ _ _ _ _ | exact Kd.S_nil _ _ _ _ _⟩, ⟨by (with_reducible repeat (first | refine zq1 ?_ _ | refine zq2 ?_ | refine zq3 ?_ _)); exact BK393.out⟩, ⟨by repeat (first | (with_reducible first | exact HB.out | apply zq5 | apply zq4 | apply zq6 | refine below_set ?_ GE393.out) | exact HB.out)⟩⟩
   case round =>
    clear H'
    try clear c2
    try clear c2b0
    try clear c2b1
    try clear p2
    try clear c3
    try clear c3b0
    try clear c3b1
    try clear c6
    obtain ⟨x4_1, x5_1, rfl, HA, HK1, HO_3, HO_4, BK393, HB⟩ := hrel
    cases gk with
    | zero => exact absurd HA.out (by simp [portolanref05_Order.l0])
    | succ k1 =>
     have H := HA.out
     clear HA
     simp only [portolanref05_Order.l0] at H
     by_cases c12 : x5_1 > 0
     ·rw [if_pos c12] at H
      have c12b0 : decide (0 < x5_1) = true := decide_eq_true c12
      clear c12
      obtain ⟨ji13, hji13⟩ : ∃ j_ : Int, (wrap64 (x5_1 - 1)) = j_ := ⟨_, rfl⟩
      replace H : (if 0 ≤ (ji13) then (if (ji13) < (t397.length : Int) then (if x4_1.length < 17592186044416 then (portolanref05_Order.l0 k1 t397 (x4_1 ++ [rd t397 (ji13)]) ji13) else (none)) else (none)) else (none)) = some r := by first | (rw [hji13] at H; exact H) | (simp only [hji13] at H ⊢; exact H)
      have hji13w : (IntKind.i64.wrap (x5_1 - 1)) = ji13 := (i64_w _).trans hji13
      by_cases c14 : 0 ≤ (ji13)
      ·rw [if_pos c14] at H
       have c14b0 : decide (0 ≤ (ji13)) = true := decide_eq_true c14
       clear c14
       by_cases c15 : (ji13) < (t397.length : Int)
       ·rw [if_pos c15] at H
        have c15b0 : decide ((ji13) < (t397.length : Int)) = true := decide_eq_true c15
        clear c15
        by_cases c16 : x4_1.length < 17592186044416
        ·rw [if_pos c16] at H
         have LMc16 := Aside0.mk c16
         clear c16
         obtain ⟨y402, hy402⟩ : ∃ y_ : List Int, y_ = (x4_1 ++ [rd t397 (ji13)]) := ⟨_, rfl⟩
         replace H : (portolanref05_Order.l0 k1 t397 y402 ji13) = some r := by first | (rw [hy402]; with_reducible exact H) | (have H2_ := (Option.bind_some _ _).symm.trans H; rw [hy402]; with_reducible exact H2_) | (have H2_ := (Option.bind_some _ _).symm.trans H; with_reducible exact H2_) | with_reducible exact H | (rw [hy402]; exact H) | exact H
         have Ny402 := Aside0.mk hy402
         clear hy402
         have H' := Aside0.mk H
         clear H
         have p401 : 0 ≤ ((ji13) : Int) := of_decide_eq_true (by first | (with_reducible assumption) | assumption)
         have q401 : (ji13) < (t397.length : Int) := of_decide_eq_true (by first | (with_reducible assumption) | assumption)
         obtain ⟨ad401, e401, hx401_0⟩ := Kd.at_int (Kd.R_reads' HO_3.out).2.2 (ji13) p401 q401
         cases e401
         replace p401 := eq_true p401
         replace q401 := eq_true q401
         go_wp2_with (first | ((with_reducible refine gate_builtin (b := .append) (xs := #[.tmp 18, .tmp 24]) rfl ?_); at_builtin; refine Kd.R_append (Kd.int .i64) (w0 := w) w.heap.size rfl (.tmp 18) (.tmp 24) 27 3 (.int .i64 0) 8 rfl Try.underlying27 info3 rfl (by decide) (by omega) u4 x4_1 (rd t397 (ji13)) [.int .i64 (rd t397 (ji13))] (fun k_ => some k_ ≠ (.slice (some ad401) t397.length co11 : Value).ownBlock) (fun _ => False) rfl rfl ?aP (fun _ hk => hk.elim) ?aF ?aO ?aB ?aS ?aL ?_; (case aP => exact rfl); (case aB => exact (by repeat (first | (with_reducible first | exact HB.out | apply zq5 | apply zq4 | apply zq6 | refine below_set ?_ GE393.out) | exact HB.out))); (case aF => exact (fun k_ hk => Kd.fresh' (Kd.R_lt (by (with_reducible repeat (first | apply Kd.R_alloc | apply Kd.R_drewN | apply Kd.R_drew)); exact HO_3.out)) k_ hk)); (case aO => exact (by (with_reducible repeat (first | apply Kd.R_alloc | apply Kd.R_drewN | apply Kd.R_drew)); exact HO_4.out)); (case aS => exact (below_size (by repeat (first | (with_reducible first | exact HB.out | apply zq5 | apply zq4 | apply zq6 | refine below_set ?_ GE393.out) | exact HB.out)))); (case aL => have := LMc16.out; omega); intro v403 w17 ho hb hg hat; rw [← Ny402.out] at ho; have n0_ := Aside0.mk (Kd.R_after (ok := (fun _ => True)) (by (with_reducible repeat (first | apply Kd.R_alloc | apply Kd.R_drewN | apply Kd.R_drew)); exact Kd.R_mono HO_3.out (fun _ hk => ⟨trivial, hk⟩)) hg hat); have n1_ := Aside0.mk (blk_grown (g := gb393) (o := .cells #[.slice A0_0 l0_0.length c0_0, .slice A0_1 l0_1.length c0_1, .int .i64 a0_2, .int .i64 a0_3, .slice A0_4 l0_4.length c0_4] 30 (0, 0)) (by (with_reducible repeat (first | refine zq1 ?_ _ | refine zq2 ?_ | refine zq3 ?_ _)); exact BK393.out) hg (Kd.R_ne HO_4.out BK393.out (by decide))); have n2_ := Aside0.mk (hb); have n3_ := Aside0.mk (ho); clear HO_3; clear BK393; clear HB; clear HO_4; have HO_3 := n0_; have BK393 := n1_; have HB := n2_; have HO404 := n3_; clear n0_ n1_ n2_ n3_; clear ho hb hg hat))
         go_roundg k1
         case measure => have := HK1.out; omega
         case rel => exact ⟨(y402), (ji13), (by first | rfl | (simp; done) | (simp only [← hji13] <;> (first | rfl | simp)) | (simp [*]; done)), H', ⟨by have := HK1.out; omega⟩, ⟨by (with_reducible repeat (first | apply Kd.R_alloc | apply Kd.R_drewN | apply Kd.R_drew)); exact Kd.R_mono HO_3.out (fun _ hk => hk.2)⟩, ⟨by (with_reducible repeat (first | apply Kd.R_alloc | apply Kd.R_drewN | apply Kd.R_drew)); exact HO404.out⟩, ⟨by (with_reducible repeat (first | refine zq1 ?_ _ | refine zq2 ?_ | refine zq3 ?_ _)); exact BK393.out⟩, ⟨by repeat (first | (with_reducible first | exact HB.out | apply zq5 | apply zq4 | apply zq6 | refine below_set ?_ GE393.out) | exact HB.out)⟩⟩
        ·rw [if_neg c16] at H
         exact absurd H (by simp)
       ·rw [if_neg c15] at H
        exact absurd H (by simp)
      ·rw [if_neg c14] at H
       exact absurd H (by simp)
     ·rw [if_neg c12] at H
      have c12b0 : decide (0 < x5_1) = false := decide_eq_false c12
      clear c12
      obtain rfl := Option.some.inj H
      go_wp2
      go_ret
      exact ⟨_, by first | rfl | (simp [errW_none, errW_some] <;> rfl) | (simp [*, errW_none, errW_some] <;> rfl), by (with_reducible repeat (first | apply Kd.R_alloc | apply Kd.R_drewN | apply Kd.R_drew)); exact Kd.R_mono HO_4.out (fun _ hk => trivial), by repeat (first | (with_reducible first | exact HB.out | apply zq5 | apply zq4 | apply zq6 | refine below_set ?_ GE393.out) | exact HB.out)⟩
  ·rw [if_neg c3] at H
   exact absurd H (by simp)
 ·rw [if_neg c2] at H
  exact absurd H (by simp)
def portolanlaw05_FlowWalks.l0 : Nat → Int → List (S30) → Option (Bool)
 | 0, _, _ => none
 | k + 1, x3, x406000 => if x3 < (x406000.length : Int) then (if 0 ≤ x3 then ((flow_Reach.f ((rd_T30 x406000 x3).f0) ((rd_T30 x406000 x3).f1) ((rd_T30 x406000 x3).f2) ((rd_T30 x406000 x3).f3) ((rd_T30 x406000 x3).f4)).bind fun t410 => ((portolanref05_Reach.f k ((rd_T30 x406000 x3).f0) ((rd_T30 x406000 x3).f1) ((rd_T30 x406000 x3).f2) ((rd_T30 x406000 x3).f3) ((rd_T30 x406000 x3).f4)).bind fun t413 => ((portolanref01_Ints.f k t410 t413).bind fun t416 => (if t416 = true then ((flow_Order.f ((rd_T30 x406000 x3).f0) ((rd_T30 x406000 x3).f1) ((rd_T30 x406000 x3).f2) ((rd_T30 x406000 x3).f3) ((rd_T30 x406000 x3).f4)).bind fun t417 => ((portolanref05_Order.f k ((rd_T30 x406000 x3).f0) ((rd_T30 x406000 x3).f1) ((rd_T30 x406000 x3).f2) ((rd_T30 x406000 x3).f3) ((rd_T30 x406000 x3).f4)).bind fun t420 => ((portolanref01_Ints.f k t417 t420).bind fun t423 => (if t423 = true then (portolanlaw05_FlowWalks.l0 k (wrap64 (x3 + 1)) x406000) else (some false))))) else (some false))))) else (none)) else (some true)
def portolanlaw05_FlowWalks.f (k : Nat) (l0_0 : List (S30)) : Option (Bool) := (portolanlaw05_alive.f k).bind fun t406 => (if t406 = true then ((portolanlaw05_out.f k l0_0).bind fun t407 => (if t407 = true then (some true) else (portolanlaw05_FlowWalks.l0 k 0 l0_0))) else (some false))
def portolanlaw05_FlowWalks.T9 : Bool × List (List Nat × List Nat) := (true, [([], []), ([0], [0]), ([], []), ([2, 1], [2]), ([1, 3, 3], [1, 3]), ([4], [4]), ([5, 4], [5]), ([6], [6]), ([7, 6, 6], [6, 7]), ([6], [6]), ([9, 8, 6], [6, 9]), ([8, 10, 10, 6], [6, 8, 10]), ([11, 6], [6, 11]), ([6, 12], [6, 12])])
def portolanlaw05_FlowWalks.B9 : List Nat := [0, 1, 0, 7, 15, 31, 63, 127, 255, 127, 1023, 2047, 4095, 8191]
theorem portolanlaw05_FlowWalks.tab9 : rtab .any (opsOf Try.f5 9) = portolanlaw05_FlowWalks.T9 := by kernel_rfl
theorem portolanlaw05_FlowWalks.bits9 : waitsOk portolanlaw05_FlowWalks.T9.2 portolanlaw05_FlowWalks.B9 = true := by kernel_rfl
set_option maxHeartbeats 8000000 in
set_option maxRecDepth 100000 in
theorem portolanlaw05_FlowWalks.calls (k : Nat) (A0_0 : Option Addr) (c0_0 : Nat) (l0_0 : List (S30)) (w : World) (hr0_0 : Kd.C k30 w A0_0 l0_0.length l0_0) (hc0_0 : l0_0.length ≤ c0_0) (h : portolanlaw05_FlowWalks.f k l0_0 = some true) :
  Calls Try.prog 5 #[.agg #[.slice A0_0 l0_0.length c0_0]] w fun e w' => e = .returned (.bool true) ∧ Below w.heap.size w w' := by
 have hu24 := Try.underlying24
 have hu30 := Try.underlying30
 have HR0_0 := Aside0.mk hr0_0
 have HC0_0 := Aside0.mk hc0_0
 clear hr0_0 hc0_0
 have HB := Aside0.mk (Below.refl w.heap.size w)
 have H : ((portolanlaw05_alive.f k).bind fun t406 => (if t406 = true then ((portolanlaw05_out.f k l0_0).bind fun t407 => (if t407 = true then (some true) else (portolanlaw05_FlowWalks.l0 k 0 l0_0))) else (some false))) = some true := h
 clear h
 replace H := Option.bind_eq_some_iff.mp H
 obtain ⟨t406, A20, H⟩ := H
 replace H : (if t406 = true then ((portolanlaw05_out.f k l0_0).bind fun t407 => (if t407 = true then (some true) else (portolanlaw05_FlowWalks.l0 k 0 l0_0))) else (some false)) = some true := H
 have A2 := Aside0.mk A20
 clear A20
 by_cases c3 : t406 = true
 ·subst c3
  have H1 : ((portolanlaw05_out.f k l0_0).bind fun t407 => (if t407 = true then (some true) else (portolanlaw05_FlowWalks.l0 k 0 l0_0))) = some true := by first | (rw [if_pos rfl] at H; exact H) | rfl
  clear H
  have H := H1
  clear H1
  replace H := Option.bind_eq_some_iff.mp H
  obtain ⟨t407, A40, H⟩ := H
  replace H : (if t407 = true then (some true) else (portolanlaw05_FlowWalks.l0 k 0 l0_0)) = some true := H
  have A4 := Aside0.mk A40
  clear A40
  by_cases c5 : t407 = true
  ·subst c5
   have H1 : (some true) = some true := by first | (rw [if_pos rfl] at H; exact H) | rfl
   clear H
   have H := H1
   clear H1
   clear H
   go_enter Try.func5, Try.ntmps5
   go_wp2_with (first | ((with_reducible refine gate_dst (N := 1) rfl ?_); refine box_event ?hg (N := 1) ?hd (cs := #[.slice A0_0 l0_0.length c0_0]) (t := 24) ?hr ?_; (case hd => rfl); (case hg => rfl); (case hr => first | (go_simp; done) | (go_simp; rfl)); intro gb405 hg w6 hbox hb; have n0_ := Aside0.mk (below_step (by repeat (first | (with_reducible first | exact HB.out | apply zq5 | apply zq4 | apply zq6) | exact HB.out)) hb); have n1_ := Aside0.mk (hbox); have n2_ := Aside0.mk ((by rw [hg]; exact (below_size (by repeat (first | (with_reducible first | exact HB.out | apply zq5 | apply zq4 | apply zq6) | exact HB.out))) : w.heap.size ≤ gb405)); have n3_ := Aside0.mk ((by rw [hg]; exact (below_size (by repeat (first | (with_reducible first | exact HB.out | apply zq5 | apply zq4 | apply zq6) | exact HB.out))) : w.heap.size ≤ gb405)); clear HB; have HB := n0_; have BK405 := n1_; have GW405 := n2_; have GE405 := n3_; clear n0_ n1_ n2_ n3_; clear hb hbox hg) | ((with_reducible refine gate_callee (f := 16) rfl ?_); refine goesL_ (some 5) rfl rfl Try.func16 (by kernel_rfl) rfl #[] rfl (by (try simp only [List.map_toArray, List.map_cons, List.map_nil]); first | done | rfl | (simp only [List.length_drop, List.length_take]; rfl)) ?_; (with_reducible refine (portolanlaw05_alive.calls k  true _ A2.out).mono ?_); rintro e w7 ⟨rfl, hb⟩; refine ⟨_, rfl, ?_⟩; have n0_ := Aside0.mk (blk_below (g := gb405) (o := .cells #[.slice A0_0 l0_0.length c0_0] 24 (0, 0)) (by (with_reducible repeat (first | refine zq1 ?_ _ | refine zq2 ?_ | refine zq3 ?_ _)); exact BK405.out) hb); have n1_ := Aside0.mk (below_step (by repeat (first | (with_reducible first | exact HB.out | apply zq5 | apply zq4 | apply zq6 | refine below_set ?_ GE405.out) | exact HB.out)) hb); clear BK405; clear HB; have BK405 := n0_; have HB := n1_; clear n0_ n1_; (try clear hb); (try clear hb2); (try clear hk); (try clear hi); have hcz8_0 : w7.cell? ⟨gb405, 0, none⟩ = some (.slice A0_0 l0_0.length c0_0) := (blk_cell BK405.out 0).trans rfl; have hfz8_0 := blk_frozen BK405.out 0) | ((with_reducible refine gate_callee (f := 17) rfl ?_); refine goesL_ (some 8) rfl rfl Try.func17 (by kernel_rfl) rfl #[.agg #[.slice A0_0 l0_0.length c0_0]] rfl (by (try simp only [List.map_toArray, List.map_cons, List.map_nil]); first | done | rfl | (simp only [List.length_drop, List.length_take]; rfl)) ?_; (with_reducible refine (portolanlaw05_out.calls k _ _ l0_0 true _ ?side1 ?side2 A4.out).mono ?_); (case side1 => repeat (first | exact (Kd.C_below HR0_0.out HB.out) | (with_reducible refine Kd.C_alloc ?_ _) | (with_reducible refine Kd.C_drewN ?_ _) | (with_reducible refine Kd.C_drew ?_))); (case side2 => exact HC0_0.out); rintro e w9 ⟨rfl, hb⟩; refine ⟨_, rfl, ?_⟩; have n0_ := Aside0.mk (blk_below (g := gb405) (o := .cells #[.slice A0_0 l0_0.length c0_0] 24 (0, 0)) (by (with_reducible repeat (first | refine zq1 ?_ _ | refine zq2 ?_ | refine zq3 ?_ _)); exact BK405.out) hb); have n1_ := Aside0.mk (below_step (by repeat (first | (with_reducible first | exact HB.out | apply zq5 | apply zq4 | apply zq6 | refine below_set ?_ GE405.out) | exact HB.out)) hb); clear BK405; clear HB; have BK405 := n0_; have HB := n1_; clear n0_ n1_; (try clear hb); (try clear hb2); (try clear hk); (try clear hi)))
   go_ret
   exact ⟨by first | rfl | (simp [errW_none, errW_some] <;> rfl) | (simp [*, errW_none, errW_some] <;> rfl), by repeat (first | (with_reducible first | exact HB.out | apply zq5 | apply zq4 | apply zq6 | refine below_set ?_ GE405.out) | exact HB.out)⟩
  ·replace c5 := Bool.eq_false_iff.mpr c5
   subst c5
   have H1 : (portolanlaw05_FlowWalks.l0 k 0 l0_0) = some true := by first | (rw [if_neg (show ¬ (false = true) by decide)] at H; exact H) | rfl
   clear H
   have H := H1
   clear H1
   have H' := Aside0.mk H
   clear H
   go_enter Try.func5, Try.ntmps5
   go_wp2_with (first | ((with_reducible refine gate_dst (N := 1) rfl ?_); refine box_event ?hg (N := 1) ?hd (cs := #[.slice A0_0 l0_0.length c0_0]) (t := 24) ?hr ?_; (case hd => rfl); (case hg => rfl); (case hr => first | (go_simp; done) | (go_simp; rfl)); intro gb405 hg w10 hbox hb; have n0_ := Aside0.mk (below_step (by repeat (first | (with_reducible first | exact HB.out | apply zq5 | apply zq4 | apply zq6) | exact HB.out)) hb); have n1_ := Aside0.mk (hbox); have n2_ := Aside0.mk ((by rw [hg]; exact (below_size (by repeat (first | (with_reducible first | exact HB.out | apply zq5 | apply zq4 | apply zq6) | exact HB.out))) : w.heap.size ≤ gb405)); have n3_ := Aside0.mk ((by rw [hg]; exact (below_size (by repeat (first | (with_reducible first | exact HB.out | apply zq5 | apply zq4 | apply zq6) | exact HB.out))) : w.heap.size ≤ gb405)); clear HB; have HB := n0_; have BK405 := n1_; have GW405 := n2_; have GE405 := n3_; clear n0_ n1_ n2_ n3_; clear hb hbox hg) | ((with_reducible refine gate_callee (f := 16) rfl ?_); refine goesL_ (some 5) rfl rfl Try.func16 (by kernel_rfl) rfl #[] rfl (by (try simp only [List.map_toArray, List.map_cons, List.map_nil]); first | done | rfl | (simp only [List.length_drop, List.length_take]; rfl)) ?_; (with_reducible refine (portolanlaw05_alive.calls k  true _ A2.out).mono ?_); rintro e w11 ⟨rfl, hb⟩; refine ⟨_, rfl, ?_⟩; have n0_ := Aside0.mk (blk_below (g := gb405) (o := .cells #[.slice A0_0 l0_0.length c0_0] 24 (0, 0)) (by (with_reducible repeat (first | refine zq1 ?_ _ | refine zq2 ?_ | refine zq3 ?_ _)); exact BK405.out) hb); have n1_ := Aside0.mk (below_step (by repeat (first | (with_reducible first | exact HB.out | apply zq5 | apply zq4 | apply zq6 | refine below_set ?_ GE405.out) | exact HB.out)) hb); clear BK405; clear HB; have BK405 := n0_; have HB := n1_; clear n0_ n1_; (try clear hb); (try clear hb2); (try clear hk); (try clear hi); have hcz12_0 : w11.cell? ⟨gb405, 0, none⟩ = some (.slice A0_0 l0_0.length c0_0) := (blk_cell BK405.out 0).trans rfl; have hfz12_0 := blk_frozen BK405.out 0) | ((with_reducible refine gate_callee (f := 17) rfl ?_); refine goesL_ (some 8) rfl rfl Try.func17 (by kernel_rfl) rfl #[.agg #[.slice A0_0 l0_0.length c0_0]] rfl (by (try simp only [List.map_toArray, List.map_cons, List.map_nil]); first | done | rfl | (simp only [List.length_drop, List.length_take]; rfl)) ?_; (with_reducible refine (portolanlaw05_out.calls k _ _ l0_0 false _ ?side1 ?side2 A4.out).mono ?_); (case side1 => repeat (first | exact (Kd.C_below HR0_0.out HB.out) | (with_reducible refine Kd.C_alloc ?_ _) | (with_reducible refine Kd.C_drewN ?_ _) | (with_reducible refine Kd.C_drew ?_))); (case side2 => exact HC0_0.out); rintro e w13 ⟨rfl, hb⟩; refine ⟨_, rfl, ?_⟩; have n0_ := Aside0.mk (blk_below (g := gb405) (o := .cells #[.slice A0_0 l0_0.length c0_0] 24 (0, 0)) (by (with_reducible repeat (first | refine zq1 ?_ _ | refine zq2 ?_ | refine zq3 ?_ _)); exact BK405.out) hb); have n1_ := Aside0.mk (below_step (by repeat (first | (with_reducible first | exact HB.out | apply zq5 | apply zq4 | apply zq6 | refine below_set ?_ GE405.out) | exact HB.out)) hb); clear BK405; clear HB; have BK405 := n0_; have HB := n1_; clear n0_ n1_; (try clear hb); (try clear hb2); (try clear hk); (try clear hi)))
   go_loopg [3] k (fun kq v3 w' => ∃ (x3_1 : Int), v3 = .int .i64 x3_1 ∧ Aside0 (portolanlaw05_FlowWalks.l0 kq x3_1 l0_0 = some true) ∧ Aside0 (kq ≤ k) ∧ Aside0 (w'.heap[gb405]? = some (.cells #[(.slice A0_0 l0_0.length c0_0)] 24 (0, 0))) ∧ Aside0 (Below w.heap.size w w'))
   case atStart => exact ⟨(0), (by first | rfl | (simp; done) | (simp [*]; done)), H', ⟨Nat.le_refl _⟩, ⟨by (with_reducible repeat (first | refine zq1 ?_ _ | refine zq2 ?_ | refine zq3 ?_ _)); exact BK405.out⟩, ⟨by repeat (first | (with_reducible first | exact HB.out | apply zq5 | apply zq4 | apply zq6 | refine below_set ?_ GE405.out) | exact HB.out)⟩⟩
   case round =>
    clear H'
    try clear c1
    try clear p2
    try clear c3
    try clear c5
    try clear hcz12_0
    try clear hcz8_0
    try clear hfz12_0
    try clear hfz8_0
    obtain ⟨x3_1, rfl, HA, HK1, BK405, HB⟩ := hrel
    cases gk with
    | zero => exact absurd HA.out (by simp [portolanlaw05_FlowWalks.l0])
    | succ k1 =>
     have H := HA.out
     clear HA
     simp only [portolanlaw05_FlowWalks.l0] at H
     by_cases c14 : x3_1 < (l0_0.length : Int)
     ·rw [if_pos c14] at H
      have c14b0 : decide (x3_1 < (l0_0.length : Int)) = true := decide_eq_true c14
      clear c14
      by_cases c15 : 0 ≤ x3_1
      ·rw [if_pos c15] at H
       have c15b0 : decide (0 ≤ x3_1) = true := decide_eq_true c15
       clear c15
       replace H := Option.bind_eq_some_iff.mp H
       obtain ⟨t410, A160, H⟩ := H
       replace H : ((portolanref05_Reach.f k1 ((rd_T30 l0_0 x3_1).f0) ((rd_T30 l0_0 x3_1).f1) ((rd_T30 l0_0 x3_1).f2) ((rd_T30 l0_0 x3_1).f3) ((rd_T30 l0_0 x3_1).f4)).bind fun t413 => ((portolanref01_Ints.f k1 t410 t413).bind fun t416 => (if t416 = true then ((flow_Order.f ((rd_T30 l0_0 x3_1).f0) ((rd_T30 l0_0 x3_1).f1) ((rd_T30 l0_0 x3_1).f2) ((rd_T30 l0_0 x3_1).f3) ((rd_T30 l0_0 x3_1).f4)).bind fun t417 => ((portolanref05_Order.f k1 ((rd_T30 l0_0 x3_1).f0) ((rd_T30 l0_0 x3_1).f1) ((rd_T30 l0_0 x3_1).f2) ((rd_T30 l0_0 x3_1).f3) ((rd_T30 l0_0 x3_1).f4)).bind fun t420 => ((portolanref01_Ints.f k1 t417 t420).bind fun t423 => (if t423 = true then (portolanlaw05_FlowWalks.l0 k1 (wrap64 (x3_1 + 1)) l0_0) else (some false))))) else (some false)))) = some true := H
       have A16 := Aside0.mk A160
       clear A160
       replace H := Option.bind_eq_some_iff.mp H
       obtain ⟨t413, A170, H⟩ := H
       replace H : ((portolanref01_Ints.f k1 t410 t413).bind fun t416 => (if t416 = true then ((flow_Order.f ((rd_T30 l0_0 x3_1).f0) ((rd_T30 l0_0 x3_1).f1) ((rd_T30 l0_0 x3_1).f2) ((rd_T30 l0_0 x3_1).f3) ((rd_T30 l0_0 x3_1).f4)).bind fun t417 => ((portolanref05_Order.f k1 ((rd_T30 l0_0 x3_1).f0) ((rd_T30 l0_0 x3_1).f1) ((rd_T30 l0_0 x3_1).f2) ((rd_T30 l0_0 x3_1).f3) ((rd_T30 l0_0 x3_1).f4)).bind fun t420 => ((portolanref01_Ints.f k1 t417 t420).bind fun t423 => (if t423 = true then (portolanlaw05_FlowWalks.l0 k1 (wrap64 (x3_1 + 1)) l0_0) else (some false))))) else (some false))) = some true := H
       have A17 := Aside0.mk A170
       clear A170
       replace H := Option.bind_eq_some_iff.mp H
       obtain ⟨t416, A180, H⟩ := H
       replace H : (if t416 = true then ((flow_Order.f ((rd_T30 l0_0 x3_1).f0) ((rd_T30 l0_0 x3_1).f1) ((rd_T30 l0_0 x3_1).f2) ((rd_T30 l0_0 x3_1).f3) ((rd_T30 l0_0 x3_1).f4)).bind fun t417 => ((portolanref05_Order.f k1 ((rd_T30 l0_0 x3_1).f0) ((rd_T30 l0_0 x3_1).f1) ((rd_T30 l0_0 x3_1).f2) ((rd_T30 l0_0 x3_1).f3) ((rd_T30 l0_0 x3_1).f4)).bind fun t420 => ((portolanref01_Ints.f k1 t417 t420).bind fun t423 => (if t423 = true then (portolanlaw05_FlowWalks.l0 k1 (wrap64 (x3_1 + 1)) l0_0) else (some false))))) else (some false)) = some true := H
       have A18 := Aside0.mk A180
       clear A180
       by_cases c19 : t416 = true
       ·subst c19
        have H1 : ((flow_Order.f ((rd_T30 l0_0 x3_1).f0) ((rd_T30 l0_0 x3_1).f1) ((rd_T30 l0_0 x3_1).f2) ((rd_T30 l0_0 x3_1).f3) ((rd_T30 l0_0 x3_1).f4)).bind fun t417 => ((portolanref05_Order.f k1 ((rd_T30 l0_0 x3_1).f0) ((rd_T30 l0_0 x3_1).f1) ((rd_T30 l0_0 x3_1).f2) ((rd_T30 l0_0 x3_1).f3) ((rd_T30 l0_0 x3_1).f4)).bind fun t420 => ((portolanref01_Ints.f k1 t417 t420).bind fun t423 => (if t423 = true then (portolanlaw05_FlowWalks.l0 k1 (wrap64 (x3_1 + 1)) l0_0) else (some false))))) = some true := by first | (rw [if_pos rfl] at H; exact H) | rfl
        clear H
        have H := H1
        clear H1
        replace H := Option.bind_eq_some_iff.mp H
        obtain ⟨t417, A200, H⟩ := H
        replace H : ((portolanref05_Order.f k1 ((rd_T30 l0_0 x3_1).f0) ((rd_T30 l0_0 x3_1).f1) ((rd_T30 l0_0 x3_1).f2) ((rd_T30 l0_0 x3_1).f3) ((rd_T30 l0_0 x3_1).f4)).bind fun t420 => ((portolanref01_Ints.f k1 t417 t420).bind fun t423 => (if t423 = true then (portolanlaw05_FlowWalks.l0 k1 (wrap64 (x3_1 + 1)) l0_0) else (some false)))) = some true := H
        have A20 := Aside0.mk A200
        clear A200
        replace H := Option.bind_eq_some_iff.mp H
        obtain ⟨t420, A210, H⟩ := H
        replace H : ((portolanref01_Ints.f k1 t417 t420).bind fun t423 => (if t423 = true then (portolanlaw05_FlowWalks.l0 k1 (wrap64 (x3_1 + 1)) l0_0) else (some false))) = some true := H
        have A21 := Aside0.mk A210
        clear A210
        replace H := Option.bind_eq_some_iff.mp H
        obtain ⟨t423, A220, H⟩ := H
        replace H : (if t423 = true then (portolanlaw05_FlowWalks.l0 k1 (wrap64 (x3_1 + 1)) l0_0) else (some false)) = some true := H
        have A22 := Aside0.mk A220
        clear A220
        by_cases c23 : t423 = true
        ·subst c23
         have H1 : (portolanlaw05_FlowWalks.l0 k1 (wrap64 (x3_1 + 1)) l0_0) = some true := by first | (rw [if_pos rfl] at H; exact H) | rfl
         clear H
         have H := H1
         clear H1
         have H' := Aside0.mk H
         clear H
         have hcz24_0 : wr.cell? ⟨gb405, 0, none⟩ = some (.slice A0_0 l0_0.length c0_0) := (blk_cell BK405.out 0).trans rfl
         have hfz24_0 := blk_frozen BK405.out 0
         have p408 : 0 ≤ (x3_1 : Int) := of_decide_eq_true (by first | (with_reducible assumption) | assumption)
         have q408 : x3_1 < (l0_0.length : Int) := of_decide_eq_true (by first | (with_reducible assumption) | assumption)
         obtain ⟨ad408, A408_0, c408_0, A408_1, c408_1, A408_4, c408_4, e408, hx408_0, hx408_1, hx408_2, hx408_3, hx408_4, hl408_0, hi408_0, hl408_1, hi408_1, hl408_4, hi408_4⟩ := at_T30 HR0_0.out x3_1 p408 q408
         cases e408
         replace hx408_0 := (HB.out.cell (World.block_lt_of_cell? w _ hx408_0)).trans hx408_0
         replace hx408_1 := (HB.out.cell (World.block_lt_of_cell? w _ hx408_1)).trans hx408_1
         replace hx408_2 := (HB.out.cell (World.block_lt_of_cell? w _ hx408_2)).trans hx408_2
         replace hx408_3 := (HB.out.cell (World.block_lt_of_cell? w _ hx408_3)).trans hx408_3
         replace hx408_4 := (HB.out.cell (World.block_lt_of_cell? w _ hx408_4)).trans hx408_4
         have HR408_0 := Aside0.mk hi408_0
         have HC408_0 := Aside0.mk hl408_0
         clear hi408_0 hl408_0
         have HR408_1 := Aside0.mk hi408_1
         have HC408_1 := Aside0.mk hl408_1
         clear hi408_1 hl408_1
         have HR408_4 := Aside0.mk hi408_4
         have HC408_4 := Aside0.mk hl408_4
         clear hi408_4 hl408_4
         replace p408 := eq_true p408
         replace q408 := eq_true q408
         try go_wp2_with (first | ((with_reducible refine gate_dst (N := 4) rfl ?_); refine box_event ?hg (N := 4) ?hd (cs := #[.slice none 0 0, .slice none 0 0, .int .i64 0, .int .i64 0, .slice none 0 0]) (t := 30) ?hr ?_; (case hd => rfl); (case hg => rfl); (case hr => first | (go_simp; done) | (go_simp; rfl)); intro gb409 hg w25 hbox hb; have n0_ := Aside0.mk (blk_below (g := gb405) (o := .cells #[.slice (some ad408) l0_0.length c0_0] 24 (0, 0)) (by (with_reducible repeat (first | refine zq1 ?_ _ | refine zq2 ?_ | refine zq3 ?_ _)); exact BK405.out) hb); have n1_ := Aside0.mk (below_step (by repeat (first | (with_reducible first | exact HB.out | apply zq5 | apply zq4 | apply zq6 | refine below_set ?_ GE405.out) | exact HB.out)) hb); have n2_ := Aside0.mk (hbox); have n3_ := Aside0.mk ((by rw [hg]; exact (below_size (by repeat (first | (with_reducible first | exact HB.out | apply zq5 | apply zq4 | apply zq6 | refine below_set ?_ GE405.out) | exact HB.out))) : w.heap.size ≤ gb409)); have n4_ := Aside0.mk ((by rw [hg]; exact (below_size (by repeat (first | (with_reducible first | exact HB.out | apply zq5 | apply zq4 | apply zq6 | refine below_set ?_ GE405.out) | exact HB.out))) : w.heap.size ≤ gb409)); have n5_ := Aside0.mk ((by rw [hg]; exact Nat.ne_of_lt (blk_lt (g := gb405) (o := .cells #[.slice (some ad408) l0_0.length c0_0] 24 (0, 0)) (by (with_reducible repeat (first | refine zq1 ?_ _ | refine zq2 ?_ | refine zq3 ?_ _)); exact BK405.out)) : gb405 ≠ gb409)); have n6_ := Aside0.mk ((by rw [hg]; exact Nat.ne_of_gt (blk_lt (g := gb405) (o := .cells #[.slice (some ad408) l0_0.length c0_0] 24 (0, 0)) (by (with_reducible repeat (first | refine zq1 ?_ _ | refine zq2 ?_ | refine zq3 ?_ _)); exact BK405.out)) : gb409 ≠ gb405)); clear BK405; clear HB; have BK405 := n0_; have HB := n1_; have BK409 := n2_; have GW409 := n3_; have GE409 := n4_; have NB405_409 := n5_; have NB409_405 := n6_; clear n0_ n1_ n2_ n3_ n4_ n5_ n6_; clear hb hbox hg; have hnb26 := NB409_405.out; have hnc26 := NB405_409.out; have hcz27_0 : w25.cell? ⟨gb409, 0, none⟩ = some (.slice none 0 0) := (blk_cell BK409.out 0).trans rfl; have hcz27_1 : w25.cell? ⟨gb409, 1, none⟩ = some (.slice none 0 0) := (blk_cell BK409.out 1).trans rfl; have hcz27_2 : w25.cell? ⟨gb409, 2, none⟩ = some (.int .i64 0) := (blk_cell BK409.out 2).trans rfl; have hcz27_3 : w25.cell? ⟨gb409, 3, none⟩ = some (.int .i64 0) := (blk_cell BK409.out 3).trans rfl; have hcz27_4 : w25.cell? ⟨gb409, 4, none⟩ = some (.slice none 0 0) := (blk_cell BK409.out 4).trans rfl; have hfz27_0 := blk_frozen BK409.out 0; have hfz27_1 := blk_frozen BK409.out 1; have hfz27_2 := blk_frozen BK409.out 2; have hfz27_3 := blk_frozen BK409.out 3; have hfz27_4 := blk_frozen BK409.out 4))
         have n0_ : Aside0 ((((((w25.setCell ⟨gb409, 0, none⟩ (.slice A408_0 ((rd_T30 l0_0 x3_1).f0).length c408_0)).setCell ⟨gb409, 1, none⟩ (.slice A408_1 ((rd_T30 l0_0 x3_1).f1).length c408_1)).setCell ⟨gb409, 2, none⟩ (.int .i64 ((rd_T30 l0_0 x3_1).f2))).setCell ⟨gb409, 3, none⟩ (.int .i64 ((rd_T30 l0_0 x3_1).f3))).setCell ⟨gb409, 4, none⟩ (.slice A408_4 ((rd_T30 l0_0 x3_1).f4).length c408_4)).heap[gb405]? = some (.cells #[.slice (some ad408) l0_0.length c0_0] 24 (0, 0))) := ⟨by (with_reducible repeat (first | refine zq1 ?_ _ | refine zq2 ?_ | refine zq3 ?_ _)); refine blk_far ?_ NB405_409.out _; (with_reducible repeat (first | refine zq1 ?_ _ | refine zq2 ?_ | refine zq3 ?_ _)); refine blk_far ?_ NB405_409.out _; (with_reducible repeat (first | refine zq1 ?_ _ | refine zq2 ?_ | refine zq3 ?_ _)); refine blk_far ?_ NB405_409.out _; (with_reducible repeat (first | refine zq1 ?_ _ | refine zq2 ?_ | refine zq3 ?_ _)); refine blk_far ?_ NB405_409.out _; (with_reducible repeat (first | refine zq1 ?_ _ | refine zq2 ?_ | refine zq3 ?_ _)); refine blk_far ?_ NB405_409.out _; (with_reducible repeat (first | refine zq1 ?_ _ | refine zq2 ?_ | refine zq3 ?_ _)); exact BK405.out⟩
         have n1_ : Aside0 ((((((w25.setCell ⟨gb409, 0, none⟩ (.slice A408_0 ((rd_T30 l0_0 x3_1).f0).length c408_0)).setCell ⟨gb409, 1, none⟩ (.slice A408_1 ((rd_T30 l0_0 x3_1).f1).length c408_1)).setCell ⟨gb409, 2, none⟩ (.int .i64 ((rd_T30 l0_0 x3_1).f2))).setCell ⟨gb409, 3, none⟩ (.int .i64 ((rd_T30 l0_0 x3_1).f3))).setCell ⟨gb409, 4, none⟩ (.slice A408_4 ((rd_T30 l0_0 x3_1).f4).length c408_4)).heap[gb409]? = some (.cells #[.slice A408_0 ((rd_T30 l0_0 x3_1).f0).length c408_0, .slice A408_1 ((rd_T30 l0_0 x3_1).f1).length c408_1, .int .i64 ((rd_T30 l0_0 x3_1).f2), .int .i64 ((rd_T30 l0_0 x3_1).f3), .slice A408_4 ((rd_T30 l0_0 x3_1).f4).length c408_4] 30 (0, 0))) := ⟨by (with_reducible repeat (first | refine zq1 ?_ _ | refine zq2 ?_ | refine zq3 ?_ _)); refine blk_put (cs := #[.slice A408_0 ((rd_T30 l0_0 x3_1).f0).length c408_0, .slice A408_1 ((rd_T30 l0_0 x3_1).f1).length c408_1, .int .i64 ((rd_T30 l0_0 x3_1).f2), .int .i64 ((rd_T30 l0_0 x3_1).f3), .slice none 0 0]) ?_ 4 _ rfl; (with_reducible repeat (first | refine zq1 ?_ _ | refine zq2 ?_ | refine zq3 ?_ _)); refine blk_put (cs := #[.slice A408_0 ((rd_T30 l0_0 x3_1).f0).length c408_0, .slice A408_1 ((rd_T30 l0_0 x3_1).f1).length c408_1, .int .i64 ((rd_T30 l0_0 x3_1).f2), .int .i64 0, .slice none 0 0]) ?_ 3 _ rfl; (with_reducible repeat (first | refine zq1 ?_ _ | refine zq2 ?_ | refine zq3 ?_ _)); refine blk_put (cs := #[.slice A408_0 ((rd_T30 l0_0 x3_1).f0).length c408_0, .slice A408_1 ((rd_T30 l0_0 x3_1).f1).length c408_1, .int .i64 0, .int .i64 0, .slice none 0 0]) ?_ 2 _ rfl; (with_reducible repeat (first | refine zq1 ?_ _ | refine zq2 ?_ | refine zq3 ?_ _)); refine blk_put (cs := #[.slice A408_0 ((rd_T30 l0_0 x3_1).f0).length c408_0, .slice none 0 0, .int .i64 0, .int .i64 0, .slice none 0 0]) ?_ 1 _ rfl; (with_reducible repeat (first | refine zq1 ?_ _ | refine zq2 ?_ | refine zq3 ?_ _)); refine blk_put (cs := #[.slice none 0 0, .slice none 0 0, .int .i64 0, .int .i64 0, .slice none 0 0]) ?_ 0 _ rfl; (with_reducible repeat (first | refine zq1 ?_ _ | refine zq2 ?_ | refine zq3 ?_ _)); exact BK409.out⟩
         have n2_ : Aside0 (Below w.heap.size w (((((w25.setCell ⟨gb409, 0, none⟩ (.slice A408_0 ((rd_T30 l0_0 x3_1).f0).length c408_0)).setCell ⟨gb409, 1, none⟩ (.slice A408_1 ((rd_T30 l0_0 x3_1).f1).length c408_1)).setCell ⟨gb409, 2, none⟩ (.int .i64 ((rd_T30 l0_0 x3_1).f2))).setCell ⟨gb409, 3, none⟩ (.int .i64 ((rd_T30 l0_0 x3_1).f3))).setCell ⟨gb409, 4, none⟩ (.slice A408_4 ((rd_T30 l0_0 x3_1).f4).length c408_4))) := ⟨by repeat (first | (with_reducible first | exact HB.out | apply zq5 | apply zq4 | apply zq6 | refine below_set ?_ GE405.out | refine below_set ?_ GE409.out) | exact HB.out)⟩
         (try clear BK405)
         (try clear BK409)
         (try clear HB)
         generalize (((((w25.setCell ⟨gb409, 0, none⟩ (.slice A408_0 ((rd_T30 l0_0 x3_1).f0).length c408_0)).setCell ⟨gb409, 1, none⟩ (.slice A408_1 ((rd_T30 l0_0 x3_1).f1).length c408_1)).setCell ⟨gb409, 2, none⟩ (.int .i64 ((rd_T30 l0_0 x3_1).f2))).setCell ⟨gb409, 3, none⟩ (.int .i64 ((rd_T30 l0_0 x3_1).f3))).setCell ⟨gb409, 4, none⟩ (.slice A408_4 ((rd_T30 l0_0 x3_1).f4).length c408_4)) = w28 at n0_ n1_ n2_ ⊢
         have BK405 := n0_
         have BK409 := n1_
         have HB := n2_
         clear n0_ n1_ n2_
         have n0_ := Aside0.mk (blk_drew BK405.out)
         have n1_ := Aside0.mk (blk_drew BK409.out)
         have n2_ := Aside0.mk (below_drew1 HB.out)
         clear BK405
         clear BK409
         clear HB
         have BK405 := n0_
         have BK409 := n1_
         have HB := n2_
         clear n0_ n1_ n2_
         refine start_ (n := 14) (S := fun w' => w'.cell? ⟨gb409, 0, none⟩ = some (.slice A408_0 ((rd_T30 l0_0 x3_1).f0).length c408_0) ∧ w'.cell? ⟨gb409, 1, none⟩ = some (.slice A408_1 ((rd_T30 l0_0 x3_1).f1).length c408_1) ∧ w'.cell? ⟨gb409, 2, none⟩ = some (.int .i64 ((rd_T30 l0_0 x3_1).f2)) ∧ w'.cell? ⟨gb409, 3, none⟩ = some (.int .i64 ((rd_T30 l0_0 x3_1).f3)) ∧ w'.cell? ⟨gb409, 4, none⟩ = some (.slice A408_4 ((rd_T30 l0_0 x3_1).f4).length c408_4)) (ds := []) #[false, false, false, false, false, false, false, false, false, false, false, false, false, false] (by kernel_rfl) rfl rfl ⟨(blk_cell BK409.out 0).trans rfl, (blk_cell BK409.out 1).trans rfl, (blk_cell BK409.out 2).trans rfl, (blk_cell BK409.out 3).trans rfl, (blk_cell BK409.out 4).trans rfl⟩ (fun hHeld => ?_); refine with_tabW portolanlaw05_FlowWalks.tab9 portolanlaw05_FlowWalks.bits9 (fun HT_ HW_ => ?_)
         generalize w28.drew = w29 at BK405 BK409 HB hHeld ⊢
         refine take_ (i := 0) (N := some 21) (v := ?_) (a' := ?_) #[true, false, false, false, false, false, false, false, false, false, false, false, false, false] rfl rfl (take_ofW HT_.out HW_.out (by kernel_rfl)) (fun _ _ _ h => h) (Or.inl ⟨by rfl, ?_⟩) hHeld ?_ ?_
         rotate_left
         ·rintro w' ⟨s0, s1, s2, s3, s4⟩
          go_simp
          with_reducible rfl
         rotate_left
         ·simp only [Act.put, List.setIfInBounds_toArray, List.set_cons_zero, List.set_cons_succ, i64_w, i32_w]
          rfl
         refine take_ (i := 2) (N := some 23) (v := ?_) (a' := ?_) #[true, false, true, false, false, false, false, false, false, false, false, false, false, false] rfl rfl (take_ofW HT_.out HW_.out (by kernel_rfl)) (fun _ _ _ h => h) (Or.inl ⟨by rfl, ?_⟩) hHeld ?_ ?_
         rotate_left
         ·rintro w' ⟨s0, s1, s2, s3, s4⟩
          go_simp
          with_reducible rfl
         rotate_left
         ·simp only [Act.put, List.setIfInBounds_toArray, List.set_cons_zero, List.set_cons_succ, i64_w, i32_w]
          rfl
         refine one_ (i := 1) (N := some 22) #[true, true, true, false, false, false, false, false, false, false, false, false, false, false] rfl rfl (one_of HT_.out (by kernel_rfl)) (by decide) (fun K hK => ?_)
         refine goes_ Try.func28 (by kernel_rfl) rfl #[.agg #[.slice A408_0 ((rd_T30 l0_0 x3_1).f0).length c408_0, .slice A408_1 ((rd_T30 l0_0 x3_1).f1).length c408_1, .int .i64 ((rd_T30 l0_0 x3_1).f2), .int .i64 ((rd_T30 l0_0 x3_1).f3), .slice A408_4 ((rd_T30 l0_0 x3_1).f4).length c408_4]] (by rfl) rfl rfl (by (try simp only [List.map_toArray, List.map_cons, List.map_nil]); first | done | rfl | (simp only [List.length_drop, List.length_take]; rfl)) ?_
         with_reducible refine (flow_Reach.calls _ _ ((rd_T30 l0_0 x3_1).f0) _ _ ((rd_T30 l0_0 x3_1).f1) ((rd_T30 l0_0 x3_1).f2) ((rd_T30 l0_0 x3_1).f3) _ _ ((rd_T30 l0_0 x3_1).f4) t410 _ ?side1 ?side2 ?side3 ?side4 ?side5 ?side6 A16.out).mono ?_
         (case side1 => repeat (first | exact (Kd.C_below HR408_0.out HB.out) | (with_reducible refine Kd.C_alloc ?_ _) | (with_reducible refine Kd.C_drewN ?_ _) | (with_reducible refine Kd.C_drew ?_)))
         (case side2 => exact HC408_0.out)
         (case side3 => repeat (first | exact (Kd.C_below HR408_1.out HB.out) | (with_reducible refine Kd.C_alloc ?_ _) | (with_reducible refine Kd.C_drewN ?_ _) | (with_reducible refine Kd.C_drew ?_)))
         (case side4 => exact HC408_1.out)
         (case side5 => repeat (first | exact (Kd.C_below HR408_4.out HB.out) | (with_reducible refine Kd.C_alloc ?_ _) | (with_reducible refine Kd.C_drewN ?_ _) | (with_reducible refine Kd.C_drew ?_)))
         (case side6 => exact HC408_4.out)
         rintro e w30 ⟨v411, rfl, ho0, hb⟩
         refine ⟨_, rfl, ?_⟩
         have n0_ := Aside0.mk (Kd.R_lower ho0 (below_size (by repeat (first | (with_reducible first | exact HB.out | apply zq5 | apply zq4 | apply zq6 | refine below_set ?_ GE405.out | refine below_set ?_ GE409.out) | exact HB.out))))
         have n1_ := Aside0.mk (blk_below (g := gb405) (o := .cells #[.slice (some ad408) l0_0.length c0_0] 24 (0, 0)) (by (with_reducible repeat (first | refine zq1 ?_ _ | refine zq2 ?_ | refine zq3 ?_ _)); exact BK405.out) hb)
         have n2_ := Aside0.mk (blk_below (g := gb409) (o := .cells #[.slice A408_0 ((rd_T30 l0_0 x3_1).f0).length c408_0, .slice A408_1 ((rd_T30 l0_0 x3_1).f1).length c408_1, .int .i64 ((rd_T30 l0_0 x3_1).f2), .int .i64 ((rd_T30 l0_0 x3_1).f3), .slice A408_4 ((rd_T30 l0_0 x3_1).f4).length c408_4] 30 (0, 0)) (by (with_reducible repeat (first | refine zq1 ?_ _ | refine zq2 ?_ | refine zq3 ?_ _)); exact BK409.out) hb)
         have n3_ := Aside0.mk (below_step (by repeat (first | (with_reducible first | exact HB.out | apply zq5 | apply zq4 | apply zq6 | refine below_set ?_ GE405.out | refine below_set ?_ GE409.out) | exact HB.out)) hb)
         clear BK405
         clear BK409
         clear HB
         have HO412 := n0_
         have BK405 := n1_
         have BK409 := n2_
         have HB := n3_
         clear n0_ n1_ n2_ n3_
         (try clear hb)
         (try clear hb2)
         (try clear hk)
         (try clear hi)
         (try clear ho0)
         refine hK.out _ _ ⟨(blk_cell BK409.out 0).trans rfl, (blk_cell BK409.out 1).trans rfl, (blk_cell BK409.out 2).trans rfl, (blk_cell BK409.out 3).trans rfl, (blk_cell BK409.out 4).trans rfl⟩ (fun hHeld => ?_)
         clear hK K
         refine norm_ (a' := ?_) ?_ ?_
         rotate_left
         ·show Act.put _ (some 22) _ = _
          simp only [Act.put, List.setIfInBounds_toArray, List.set_cons_zero, List.set_cons_succ, i64_w, i32_w]
          rfl
         refine one_ (i := 3) (N := some 24) #[true, true, true, true, false, false, false, false, false, false, false, false, false, false] rfl rfl (one_of HT_.out (by kernel_rfl)) (by decide) (fun K hK => ?_)
         refine goes_ Try.func29 (by kernel_rfl) rfl #[.agg #[.slice A408_0 ((rd_T30 l0_0 x3_1).f0).length c408_0, .slice A408_1 ((rd_T30 l0_0 x3_1).f1).length c408_1, .int .i64 ((rd_T30 l0_0 x3_1).f2), .int .i64 ((rd_T30 l0_0 x3_1).f3), .slice A408_4 ((rd_T30 l0_0 x3_1).f4).length c408_4]] (by rfl) rfl rfl (by (try simp only [List.map_toArray, List.map_cons, List.map_nil]); first | done | rfl | (simp only [List.length_drop, List.length_take]; rfl)) ?_
         with_reducible refine (portolanref05_Reach.calls k1 _ _ ((rd_T30 l0_0 x3_1).f0) _ _ ((rd_T30 l0_0 x3_1).f1) ((rd_T30 l0_0 x3_1).f2) ((rd_T30 l0_0 x3_1).f3) _ _ ((rd_T30 l0_0 x3_1).f4) t413 _ ?side1 ?side2 ?side3 ?side4 ?side5 ?side6 A17.out).mono ?_
         (case side1 => repeat (first | exact (Kd.C_below HR408_0.out HB.out) | (with_reducible refine Kd.C_alloc ?_ _) | (with_reducible refine Kd.C_drewN ?_ _) | (with_reducible refine Kd.C_drew ?_)))
         (case side2 => exact HC408_0.out)
         (case side3 => repeat (first | exact (Kd.C_below HR408_1.out HB.out) | (with_reducible refine Kd.C_alloc ?_ _) | (with_reducible refine Kd.C_drewN ?_ _) | (with_reducible refine Kd.C_drew ?_)))
         (case side4 => exact HC408_1.out)
         (case side5 => repeat (first | exact (Kd.C_below HR408_4.out HB.out) | (with_reducible refine Kd.C_alloc ?_ _) | (with_reducible refine Kd.C_drewN ?_ _) | (with_reducible refine Kd.C_drew ?_)))
         (case side6 => exact HC408_4.out)
         rintro e w31 ⟨v414, rfl, ho0, hb⟩
         refine ⟨_, rfl, ?_⟩
         have n0_ := Aside0.mk (Kd.R_elder' (by (with_reducible repeat (first | apply Kd.R_alloc | apply Kd.R_drewN | apply Kd.R_drew)); exact HO412.out) (Kd.R_base ho0) hb)
         have n1_ := Aside0.mk (Kd.R_lower (Kd.R_new' ho0 (Kd.R_lt (by (with_reducible repeat (first | apply Kd.R_alloc | apply Kd.R_drewN | apply Kd.R_drew)); exact HO412.out))) (below_size (by repeat (first | (with_reducible first | exact HB.out | apply zq5 | apply zq4 | apply zq6 | refine below_set ?_ GE405.out | refine below_set ?_ GE409.out) | exact HB.out))))
         have n2_ := Aside0.mk (blk_below (g := gb405) (o := .cells #[.slice (some ad408) l0_0.length c0_0] 24 (0, 0)) (by (with_reducible repeat (first | refine zq1 ?_ _ | refine zq2 ?_ | refine zq3 ?_ _)); exact BK405.out) hb)
         have n3_ := Aside0.mk (blk_below (g := gb409) (o := .cells #[.slice A408_0 ((rd_T30 l0_0 x3_1).f0).length c408_0, .slice A408_1 ((rd_T30 l0_0 x3_1).f1).length c408_1, .int .i64 ((rd_T30 l0_0 x3_1).f2), .int .i64 ((rd_T30 l0_0 x3_1).f3), .slice A408_4 ((rd_T30 l0_0 x3_1).f4).length c408_4] 30 (0, 0)) (by (with_reducible repeat (first | refine zq1 ?_ _ | refine zq2 ?_ | refine zq3 ?_ _)); exact BK409.out) hb)
         have n4_ := Aside0.mk (below_step (by repeat (first | (with_reducible first | exact HB.out | apply zq5 | apply zq4 | apply zq6 | refine below_set ?_ GE405.out | refine below_set ?_ GE409.out) | exact HB.out)) hb)
         clear HO412
         clear BK405
         clear BK409
         clear HB
         have HO412 := n0_
         have HO415 := n1_
         have BK405 := n2_
         have BK409 := n3_
         have HB := n4_
         clear n0_ n1_ n2_ n3_ n4_
         (try clear hb)
         (try clear hb2)
         (try clear hk)
         (try clear hi)
         (try clear ho0)
         obtain ⟨Ao32, co32, eo32⟩ := Kd.R_slice HO412.out
         (first | subst eo32 | (injection eo32 with f1_ f2_ f3_; have f4_ := f1_.symm; have f5_ := f3_.symm; clear f1_ f2_ f3_; subst f4_; subst f5_))
         obtain ⟨Ao33, co33, eo33⟩ := Kd.R_slice HO415.out
         (first | subst eo33 | (injection eo33 with f1_ f2_ f3_; have f4_ := f1_.symm; have f5_ := f3_.symm; clear f1_ f2_ f3_; subst f4_; subst f5_))
         refine hK.out _ _ ⟨(blk_cell BK409.out 0).trans rfl, (blk_cell BK409.out 1).trans rfl, (blk_cell BK409.out 2).trans rfl, (blk_cell BK409.out 3).trans rfl, (blk_cell BK409.out 4).trans rfl⟩ (fun hHeld => ?_)
         clear hK K
         refine norm_ (a' := ?_) ?_ ?_
         rotate_left
         ·show Act.put _ (some 24) _ = _
          simp only [Act.put, List.setIfInBounds_toArray, List.set_cons_zero, List.set_cons_succ, i64_w, i32_w]
          rfl
         refine one_ (i := 4) (N := some 25) #[true, true, true, true, true, false, false, false, false, false, false, false, false, false] rfl rfl (one_of HT_.out (by kernel_rfl)) (by decide) (fun K hK => ?_)
         refine goes_ Try.func18 (by kernel_rfl) rfl #[.slice Ao32 t410.length co32, .slice Ao33 t413.length co33] (by rfl) rfl rfl (by (try simp only [List.map_toArray, List.map_cons, List.map_nil]); first | done | rfl | (simp only [List.length_drop, List.length_take]; rfl)) ?_
         with_reducible refine (portolanref01_Ints.calls k1 _ _ t410 _ _ t413 true _ ?side1 ?side2 ?side3 ?side4 A18.out).mono ?_
         (case side1 => repeat (first | exact (Kd.R_reads' HO412.out).2.2 | (with_reducible refine Kd.C_alloc ?_ _) | (with_reducible refine Kd.C_drewN ?_ _) | (with_reducible refine Kd.C_drew ?_)))
         (case side2 => exact (Kd.R_reads' HO412.out).2.1)
         (case side3 => repeat (first | exact (Kd.R_reads' HO415.out).2.2 | (with_reducible refine Kd.C_alloc ?_ _) | (with_reducible refine Kd.C_drewN ?_ _) | (with_reducible refine Kd.C_drew ?_)))
         (case side4 => exact (Kd.R_reads' HO415.out).2.1)
         rintro e w' ⟨rfl, ⟨nd, rfl⟩⟩
         refine ⟨_, rfl, ?_⟩
         refine hK.out _ _ ⟨(blk_cell BK409.out 0).trans rfl, (blk_cell BK409.out 1).trans rfl, (blk_cell BK409.out 2).trans rfl, (blk_cell BK409.out 3).trans rfl, (blk_cell BK409.out 4).trans rfl⟩ (fun hHeld => ?_)
         clear hK K
         refine norm_ (a' := ?_) ?_ ?_
         rotate_left
         ·show Act.put _ (some 25) _ = _
          simp only [Act.put, List.setIfInBounds_toArray, List.set_cons_zero, List.set_cons_succ, i64_w, i32_w]
          rfl
         refine pure_ (i := 5) (N := some 26) (v := ?_) (a' := ?_) #[true, true, true, true, true, true, false, false, false, false, false, false, false, false] rfl rfl (any_of HT_.out (by kernel_rfl)) (fun _ _ _ h => h) (Or.inl ⟨by rfl, ?_⟩) ?_ ?_
         rotate_left
         ·intro w'
          go_simp
          with_reducible rfl
         rotate_left
         ·simp only [Act.put, List.setIfInBounds_toArray, List.set_cons_zero, List.set_cons_succ, i64_w, i32_w]
          rfl
         refine pure_ (i := 6) (N := some 27) (v := ?_) (a' := ?_) #[true, true, true, true, true, true, true, false, false, false, false, false, false, false] rfl rfl (any_of HT_.out (by kernel_rfl)) (fun _ _ _ h => h) (Or.inl ⟨by rfl, ?_⟩) ?_ ?_
         rotate_left
         ·intro w'
          go_simp
          with_reducible rfl
         rotate_left
         ·simp only [Act.put, List.setIfInBounds_toArray, List.set_cons_zero, List.set_cons_succ, i64_w, i32_w]
          rfl
         refine take_ (i := 7) (N := some 28) (v := ?_) (a' := ?_) #[true, true, true, true, true, true, true, true, false, false, false, false, false, false] rfl rfl (take_ofW HT_.out HW_.out (by kernel_rfl)) (fun _ _ _ h => h) (Or.inl ⟨by rfl, ?_⟩) hHeld ?_ ?_
         rotate_left
         ·rintro w' ⟨s0, s1, s2, s3, s4⟩
          go_simp
          with_reducible rfl
         rotate_left
         ·simp only [Act.put, List.setIfInBounds_toArray, List.set_cons_zero, List.set_cons_succ, i64_w, i32_w]
          rfl
         refine take_ (i := 9) (N := some 30) (v := ?_) (a' := ?_) #[true, true, true, true, true, true, true, true, false, true, false, false, false, false] rfl rfl (take_ofW HT_.out HW_.out (by kernel_rfl)) (fun _ _ _ h => h) (Or.inl ⟨by rfl, ?_⟩) hHeld ?_ ?_
         rotate_left
         ·rintro w' ⟨s0, s1, s2, s3, s4⟩
          go_simp
          with_reducible rfl
         rotate_left
         ·simp only [Act.put, List.setIfInBounds_toArray, List.set_cons_zero, List.set_cons_succ, i64_w, i32_w]
          rfl
         refine one_ (i := 8) (N := some 29) #[true, true, true, true, true, true, true, true, true, true, false, false, false, false] rfl rfl (one_of HT_.out (by kernel_rfl)) (by decide) (fun K hK => ?_)
         refine goes_ Try.func30 (by kernel_rfl) rfl #[.agg #[.slice A408_0 ((rd_T30 l0_0 x3_1).f0).length c408_0, .slice A408_1 ((rd_T30 l0_0 x3_1).f1).length c408_1, .int .i64 ((rd_T30 l0_0 x3_1).f2), .int .i64 ((rd_T30 l0_0 x3_1).f3), .slice A408_4 ((rd_T30 l0_0 x3_1).f4).length c408_4]] (by rfl) rfl rfl (by (try simp only [List.map_toArray, List.map_cons, List.map_nil]); first | done | rfl | (simp only [List.length_drop, List.length_take]; rfl)) ?_
         with_reducible refine (flow_Order.calls _ _ ((rd_T30 l0_0 x3_1).f0) _ _ ((rd_T30 l0_0 x3_1).f1) ((rd_T30 l0_0 x3_1).f2) ((rd_T30 l0_0 x3_1).f3) _ _ ((rd_T30 l0_0 x3_1).f4) t417 _ ?side1 ?side2 ?side3 ?side4 ?side5 ?side6 A20.out).mono ?_
         (case side1 => repeat (first | exact (Kd.C_below HR408_0.out (by repeat (first | (with_reducible first | exact HB.out | apply zq5 | apply zq4 | apply zq6 | refine below_set ?_ GE405.out | refine below_set ?_ GE409.out) | exact HB.out))) | (with_reducible refine Kd.C_alloc ?_ _) | (with_reducible refine Kd.C_drewN ?_ _) | (with_reducible refine Kd.C_drew ?_)))
         (case side2 => exact HC408_0.out)
         (case side3 => repeat (first | exact (Kd.C_below HR408_1.out (by repeat (first | (with_reducible first | exact HB.out | apply zq5 | apply zq4 | apply zq6 | refine below_set ?_ GE405.out | refine below_set ?_ GE409.out) | exact HB.out))) | (with_reducible refine Kd.C_alloc ?_ _) | (with_reducible refine Kd.C_drewN ?_ _) | (with_reducible refine Kd.C_drew ?_)))
         (case side4 => exact HC408_1.out)
         (case side5 => repeat (first | exact (Kd.C_below HR408_4.out (by repeat (first | (with_reducible first | exact HB.out | apply zq5 | apply zq4 | apply zq6 | refine below_set ?_ GE405.out | refine below_set ?_ GE409.out) | exact HB.out))) | (with_reducible refine Kd.C_alloc ?_ _) | (with_reducible refine Kd.C_drewN ?_ _) | (with_reducible refine Kd.C_drew ?_)))
         (case side6 => exact HC408_4.out)
         rintro e w34 ⟨v418, rfl, ho0, hb⟩
         refine ⟨_, rfl, ?_⟩
         have n0_ := Aside0.mk (Kd.R_elder' (by (with_reducible repeat (first | apply Kd.R_alloc | apply Kd.R_drewN | apply Kd.R_drew)); exact HO412.out) (Kd.R_base ho0) hb)
         have n1_ := Aside0.mk (Kd.R_elder' (by (with_reducible repeat (first | apply Kd.R_alloc | apply Kd.R_drewN | apply Kd.R_drew)); exact HO415.out) (Kd.R_base ho0) hb)
         have n2_ := Aside0.mk (Kd.R_lower (Kd.R_new' (Kd.R_new' ho0 (Kd.R_lt (by (with_reducible repeat (first | apply Kd.R_alloc | apply Kd.R_drewN | apply Kd.R_drew)); exact HO412.out))) (Kd.R_lt (by (with_reducible repeat (first | apply Kd.R_alloc | apply Kd.R_drewN | apply Kd.R_drew)); exact HO415.out))) (below_size (by repeat (first | (with_reducible first | exact HB.out | apply zq5 | apply zq4 | apply zq6 | refine below_set ?_ GE405.out | refine below_set ?_ GE409.out) | exact HB.out))))
         have n3_ := Aside0.mk (blk_below (g := gb405) (o := .cells #[.slice (some ad408) l0_0.length c0_0] 24 (0, 0)) (by (with_reducible repeat (first | refine zq1 ?_ _ | refine zq2 ?_ | refine zq3 ?_ _)); exact BK405.out) hb)
         have n4_ := Aside0.mk (blk_below (g := gb409) (o := .cells #[.slice A408_0 ((rd_T30 l0_0 x3_1).f0).length c408_0, .slice A408_1 ((rd_T30 l0_0 x3_1).f1).length c408_1, .int .i64 ((rd_T30 l0_0 x3_1).f2), .int .i64 ((rd_T30 l0_0 x3_1).f3), .slice A408_4 ((rd_T30 l0_0 x3_1).f4).length c408_4] 30 (0, 0)) (by (with_reducible repeat (first | refine zq1 ?_ _ | refine zq2 ?_ | refine zq3 ?_ _)); exact BK409.out) hb)
         have n5_ := Aside0.mk (below_step (by repeat (first | (with_reducible first | exact HB.out | apply zq5 | apply zq4 | apply zq6 | refine below_set ?_ GE405.out | refine below_set ?_ GE409.out) | exact HB.out)) hb)
         clear HO412
         clear HO415
         clear BK405
         clear BK409
         clear HB
         have HO412 := n0_
         have HO415 := n1_
         have HO419 := n2_
         have BK405 := n3_
         have BK409 := n4_
         have HB := n5_
         clear n0_ n1_ n2_ n3_ n4_ n5_
         (try clear hb)
         (try clear hb2)
         (try clear hk)
         (try clear hi)
         (try clear ho0)
         refine hK.out _ _ ⟨(blk_cell BK409.out 0).trans rfl, (blk_cell BK409.out 1).trans rfl, (blk_cell BK409.out 2).trans rfl, (blk_cell BK409.out 3).trans rfl, (blk_cell BK409.out 4).trans rfl⟩ (fun hHeld => ?_)
         clear hK K
         refine norm_ (a' := ?_) ?_ ?_
         rotate_left
         ·show Act.put _ (some 29) _ = _
          simp only [Act.put, List.setIfInBounds_toArray, List.set_cons_zero, List.set_cons_succ, i64_w, i32_w]
          rfl
         refine one_ (i := 10) (N := some 31) #[true, true, true, true, true, true, true, true, true, true, true, false, false, false] rfl rfl (one_of HT_.out (by kernel_rfl)) (by decide) (fun K hK => ?_)
         refine goes_ Try.func31 (by kernel_rfl) rfl #[.agg #[.slice A408_0 ((rd_T30 l0_0 x3_1).f0).length c408_0, .slice A408_1 ((rd_T30 l0_0 x3_1).f1).length c408_1, .int .i64 ((rd_T30 l0_0 x3_1).f2), .int .i64 ((rd_T30 l0_0 x3_1).f3), .slice A408_4 ((rd_T30 l0_0 x3_1).f4).length c408_4]] (by rfl) rfl rfl (by (try simp only [List.map_toArray, List.map_cons, List.map_nil]); first | done | rfl | (simp only [List.length_drop, List.length_take]; rfl)) ?_
         with_reducible refine (portolanref05_Order.calls k1 _ _ ((rd_T30 l0_0 x3_1).f0) _ _ ((rd_T30 l0_0 x3_1).f1) ((rd_T30 l0_0 x3_1).f2) ((rd_T30 l0_0 x3_1).f3) _ _ ((rd_T30 l0_0 x3_1).f4) t420 _ ?side1 ?side2 ?side3 ?side4 ?side5 ?side6 A21.out).mono ?_
         (case side1 => repeat (first | exact (Kd.C_below HR408_0.out HB.out) | (with_reducible refine Kd.C_alloc ?_ _) | (with_reducible refine Kd.C_drewN ?_ _) | (with_reducible refine Kd.C_drew ?_)))
         (case side2 => exact HC408_0.out)
         (case side3 => repeat (first | exact (Kd.C_below HR408_1.out HB.out) | (with_reducible refine Kd.C_alloc ?_ _) | (with_reducible refine Kd.C_drewN ?_ _) | (with_reducible refine Kd.C_drew ?_)))
         (case side4 => exact HC408_1.out)
         (case side5 => repeat (first | exact (Kd.C_below HR408_4.out HB.out) | (with_reducible refine Kd.C_alloc ?_ _) | (with_reducible refine Kd.C_drewN ?_ _) | (with_reducible refine Kd.C_drew ?_)))
         (case side6 => exact HC408_4.out)
         rintro e w35 ⟨v421, rfl, ho0, hb⟩
         refine ⟨_, rfl, ?_⟩
         have n0_ := Aside0.mk (Kd.R_elder' (by (with_reducible repeat (first | apply Kd.R_alloc | apply Kd.R_drewN | apply Kd.R_drew)); exact HO412.out) (Kd.R_base ho0) hb)
         have n1_ := Aside0.mk (Kd.R_elder' (by (with_reducible repeat (first | apply Kd.R_alloc | apply Kd.R_drewN | apply Kd.R_drew)); exact HO415.out) (Kd.R_base ho0) hb)
         have n2_ := Aside0.mk (Kd.R_elder' (by (with_reducible repeat (first | apply Kd.R_alloc | apply Kd.R_drewN | apply Kd.R_drew)); exact HO419.out) (Kd.R_base ho0) hb)
         have n3_ := Aside0.mk (Kd.R_lower (Kd.R_new' (Kd.R_new' (Kd.R_new' ho0 (Kd.R_lt (by (with_reducible repeat (first | apply Kd.R_alloc | apply Kd.R_drewN | apply Kd.R_drew)); exact HO412.out))) (Kd.R_lt (by (with_reducible repeat (first | apply Kd.R_alloc | apply Kd.R_drewN | apply Kd.R_drew)); exact HO415.out))) (Kd.R_lt (by (with_reducible repeat (first | apply Kd.R_alloc | apply Kd.R_drewN | apply Kd.R_drew)); exact HO419.out))) (below_size (by repeat (first | (with_reducible first | exact HB.out | apply zq5 | apply zq4 | apply zq6 | refine below_set ?_ GE405.out | refine below_set ?_ GE409.out) | exact HB.out))))
         have n4_ := Aside0.mk (blk_below (g := gb405) (o := .cells #[.slice (some ad408) l0_0.length c0_0] 24 (0, 0)) (by (with_reducible repeat (first | refine zq1 ?_ _ | refine zq2 ?_ | refine zq3 ?_ _)); exact BK405.out) hb)
         have n5_ := Aside0.mk (blk_below (g := gb409) (o := .cells #[.slice A408_0 ((rd_T30 l0_0 x3_1).f0).length c408_0, .slice A408_1 ((rd_T30 l0_0 x3_1).f1).length c408_1, .int .i64 ((rd_T30 l0_0 x3_1).f2), .int .i64 ((rd_T30 l0_0 x3_1).f3), .slice A408_4 ((rd_T30 l0_0 x3_1).f4).length c408_4] 30 (0, 0)) (by (with_reducible repeat (first | refine zq1 ?_ _ | refine zq2 ?_ | refine zq3 ?_ _)); exact BK409.out) hb)
         have n6_ := Aside0.mk (below_step (by repeat (first | (with_reducible first | exact HB.out | apply zq5 | apply zq4 | apply zq6 | refine below_set ?_ GE405.out | refine below_set ?_ GE409.out) | exact HB.out)) hb)
         clear HO412
         clear HO415
         clear HO419
         clear BK405
         clear BK409
         clear HB
         have HO412 := n0_
         have HO415 := n1_
         have HO419 := n2_
         have HO422 := n3_
         have BK405 := n4_
         have BK409 := n5_
         have HB := n6_
         clear n0_ n1_ n2_ n3_ n4_ n5_ n6_
         (try clear hb)
         (try clear hb2)
         (try clear hk)
         (try clear hi)
         (try clear ho0)
         obtain ⟨Ao36, co36, eo36⟩ := Kd.R_slice HO419.out
         (first | subst eo36 | (injection eo36 with f1_ f2_ f3_; have f4_ := f1_.symm; have f5_ := f3_.symm; clear f1_ f2_ f3_; subst f4_; subst f5_))
         obtain ⟨Ao37, co37, eo37⟩ := Kd.R_slice HO422.out
         (first | subst eo37 | (injection eo37 with f1_ f2_ f3_; have f4_ := f1_.symm; have f5_ := f3_.symm; clear f1_ f2_ f3_; subst f4_; subst f5_))
         refine hK.out _ _ ⟨(blk_cell BK409.out 0).trans rfl, (blk_cell BK409.out 1).trans rfl, (blk_cell BK409.out 2).trans rfl, (blk_cell BK409.out 3).trans rfl, (blk_cell BK409.out 4).trans rfl⟩ (fun hHeld => ?_)
         clear hK K
         refine norm_ (a' := ?_) ?_ ?_
         rotate_left
         ·show Act.put _ (some 31) _ = _
          simp only [Act.put, List.setIfInBounds_toArray, List.set_cons_zero, List.set_cons_succ, i64_w, i32_w]
          rfl
         refine one_ (i := 11) (N := some 32) #[true, true, true, true, true, true, true, true, true, true, true, true, false, false] rfl rfl (one_of HT_.out (by kernel_rfl)) (by decide) (fun K hK => ?_)
         refine goes_ Try.func18 (by kernel_rfl) rfl #[.slice Ao36 t417.length co36, .slice Ao37 t420.length co37] (by rfl) rfl rfl (by (try simp only [List.map_toArray, List.map_cons, List.map_nil]); first | done | rfl | (simp only [List.length_drop, List.length_take]; rfl)) ?_
         with_reducible refine (portolanref01_Ints.calls k1 _ _ t417 _ _ t420 true _ ?side1 ?side2 ?side3 ?side4 A22.out).mono ?_
         (case side1 => repeat (first | exact (Kd.R_reads' HO419.out).2.2 | (with_reducible refine Kd.C_alloc ?_ _) | (with_reducible refine Kd.C_drewN ?_ _) | (with_reducible refine Kd.C_drew ?_)))
         (case side2 => exact (Kd.R_reads' HO419.out).2.1)
         (case side3 => repeat (first | exact (Kd.R_reads' HO422.out).2.2 | (with_reducible refine Kd.C_alloc ?_ _) | (with_reducible refine Kd.C_drewN ?_ _) | (with_reducible refine Kd.C_drew ?_)))
         (case side4 => exact (Kd.R_reads' HO422.out).2.1)
         rintro e w' ⟨rfl, ⟨nd, rfl⟩⟩
         refine ⟨_, rfl, ?_⟩
         refine hK.out _ _ ⟨(blk_cell BK409.out 0).trans rfl, (blk_cell BK409.out 1).trans rfl, (blk_cell BK409.out 2).trans rfl, (blk_cell BK409.out 3).trans rfl, (blk_cell BK409.out 4).trans rfl⟩ (fun hHeld => ?_)
         clear hK K
         refine norm_ (a' := ?_) ?_ ?_
         rotate_left
         ·show Act.put _ (some 32) _ = _
          simp only [Act.put, List.setIfInBounds_toArray, List.set_cons_zero, List.set_cons_succ, i64_w, i32_w]
          rfl
         refine pure_ (i := 12) (N := some 33) (v := ?_) (a' := ?_) #[true, true, true, true, true, true, true, true, true, true, true, true, true, false] rfl rfl (any_of HT_.out (by kernel_rfl)) (fun _ _ _ h => h) (Or.inl ⟨by rfl, ?_⟩) ?_ ?_
         rotate_left
         ·intro w'
          go_simp
          with_reducible rfl
         rotate_left
         ·simp only [Act.put, List.setIfInBounds_toArray, List.set_cons_zero, List.set_cons_succ, i64_w, i32_w]
          rfl
         refine pure_ (i := 13) (N := some 34) (v := ?_) (a' := ?_) #[true, true, true, true, true, true, true, true, true, true, true, true, true, true] rfl rfl (any_of HT_.out (by kernel_rfl)) (fun _ _ _ h => h) (Or.inl ⟨by rfl, ?_⟩) ?_ ?_
         rotate_left
         ·intro w'
          go_simp
          with_reducible rfl
         rotate_left
         ·simp only [Act.put, List.setIfInBounds_toArray, List.set_cons_zero, List.set_cons_succ, i64_w, i32_w]
          rfl
         refine done_ (done_of HT_.out (by kernel_rfl)) ?_
         try go_wp2
         go_roundg k1
         case measure => have := HK1.out; omega
         case rel => exact ⟨(wrap64 (x3_1 + 1)), (by first | rfl | (simp; done) | (simp [*]; done)), H', ⟨by have := HK1.out; omega⟩, ⟨by (with_reducible repeat (first | refine zq1 ?_ _ | refine zq2 ?_ | refine zq3 ?_ _)); exact BK405.out⟩, ⟨by repeat (first | (with_reducible first | exact HB.out | apply zq5 | apply zq4 | apply zq6 | refine below_set ?_ GE405.out | refine below_set ?_ GE409.out) | exact HB.out)⟩⟩
        ·replace c23 := Bool.eq_false_iff.mpr c23
         subst c23
         have H1 : (some false) = some true := by first | (rw [if_neg (show ¬ (false = true) by decide)] at H; exact H) | rfl
         clear H
         have H := H1
         clear H1
         exact absurd (Option.some.inj H) (by decide)
       ·replace c19 := Bool.eq_false_iff.mpr c19
        subst c19
        have H1 : (some false) = some true := by first | (rw [if_neg (show ¬ (false = true) by decide)] at H; exact H) | rfl
        clear H
        have H := H1
        clear H1
        exact absurd (Option.some.inj H) (by decide)
      ·rw [if_neg c15] at H
       exact absurd H (by simp)
     ·rw [if_neg c14] at H
      have c14b0 : decide (x3_1 < (l0_0.length : Int)) = false := decide_eq_false c14
      clear c14
      clear H
      have hcz38_0 : wr.cell? ⟨gb405, 0, none⟩ = some (.slice A0_0 l0_0.length c0_0) := (blk_cell BK405.out 0).trans rfl
      have hfz38_0 := blk_frozen BK405.out 0
      go_wp2
      go_ret
      exact ⟨by first | rfl | (simp [errW_none, errW_some] <;> rfl) | (simp [*, errW_none, errW_some] <;> rfl), by repeat (first | (with_reducible first | exact HB.out | apply zq5 | apply zq4 | apply zq6 | refine below_set ?_ GE405.out) | exact HB.out)⟩
 ·replace c3 := Bool.eq_false_iff.mpr c3
  subst c3
  have H1 : (some false) = some true := by first | (rw [if_neg (show ¬ (false = true) by decide)] at H; exact H) | rfl
  clear H
  have H := H1
  clear H1
  exact absurd (Option.some.inj H) (by decide)
end Go.Proofs.Ytcknmcfomkbenaa.PF
