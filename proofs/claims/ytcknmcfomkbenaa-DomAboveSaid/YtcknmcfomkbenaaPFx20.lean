import Derived.Test.YtcknmcfomkbenaaPFx0
import Derived.Test.YtcknmcfomkbenaaPFx2
import Derived.Test.YtcknmcfomkbenaaPFx3
import Derived.Test.YtcknmcfomkbenaaHh
import Derived.Test.YtcknmcfomkbenaaHk
namespace Go.Proofs.Ytcknmcfomkbenaa.PF
open Go.RowKit Go.Proofs.YtcknmcfomkbenaaW.PrintWords Go.Proofs.YtcknmcfomkbenaaW.PrintLast Go.Proofs.YtcknmcfomkbenaaW.PrintMore
attribute [local go_sem] max2_int min2_int max_two min_two max_three min_three max_four min_four   -- for this text's walks alone
set_option linter.unusedVariables false
set_option linter.unusedSimpArgs false
def dom_Dominates.f (l0_0 : List Int) (l0_1 : List Int) (a0_2 : Int) (a0_3 : Int) (l0_4 : List (S50)) (a1 : Int) (a2 : Int) : Option (Bool) := ((flow_Order.f l0_0 l0_1 a0_2 a0_3 l0_4).bind fun o => if l0_4.length ≤ 64 ∧ (List.range l0_4.length).all (fun b => (flow_Prev.f (l0_4.length + 20) l0_0 l0_1 a0_2 a0_3 l0_4 (b : Int)).isSome) = true then Go.Proofs.Ytcknmcfomkbenaa.D.growF l0_4.length o (fun b => (flow_Prev.f (l0_4.length + 20) l0_0 l0_1 a0_2 a0_3 l0_4 b).getD []) 140 70 else none).bind fun t => Go.Proofs.Ytcknmcfomkbenaa.D.domF l0_4.length t.1 t.2 70 a1 a2
set_option maxHeartbeats 8000000 in
set_option maxRecDepth 100000 in
theorem dom_Dominates.calls (A0_0 : Option Addr) (c0_0 : Nat) (l0_0 : List Int) (A0_1 : Option Addr) (c0_1 : Nat) (l0_1 : List Int) (a0_2 : Int) (a0_3 : Int) (A0_4 : Option Addr) (c0_4 : Nat) (l0_4 : List (S50)) (a1 : Int) (a2 : Int) (r : Bool) (w : World) (hr0_0 : Kd.C (Kd.int .i64) w A0_0 l0_0.length l0_0) (hc0_0 : l0_0.length ≤ c0_0) (hr0_1 : Kd.C (Kd.int .i64) w A0_1 l0_1.length l0_1) (hc0_1 : l0_1.length ≤ c0_1) (hr0_4 : Kd.C k50 w A0_4 l0_4.length l0_4) (hc0_4 : l0_4.length ≤ c0_4) (h : dom_Dominates.f l0_0 l0_1 a0_2 a0_3 l0_4 a1 a2 = some r) :
  Calls Try.prog 49 #[.agg #[.slice A0_0 l0_0.length c0_0, .slice A0_1 l0_1.length c0_1, .int .i64 a0_2, .int .i64 a0_3, .slice A0_4 l0_4.length c0_4], .int .i64 a1, .int .i64 a2] w fun e w' => e = .returned (.bool r) ∧ Below w.heap.size w w' := by
 have h' : (((flow_Order.f l0_0 l0_1 a0_2 a0_3 l0_4).bind fun o => if l0_4.length ≤ 64 ∧ (List.range l0_4.length).all (fun b => (flow_Prev.f (l0_4.length + 20) l0_0 l0_1 a0_2 a0_3 l0_4 (b : Int)).isSome) = true then Go.Proofs.Ytcknmcfomkbenaa.D.growF l0_4.length o (fun b => (flow_Prev.f (l0_4.length + 20) l0_0 l0_1 a0_2 a0_3 l0_4 b).getD []) 140 70 else none).bind fun t => Go.Proofs.Ytcknmcfomkbenaa.D.domF l0_4.length t.1 t.2 70 a1 a2) = some r := h; clear h; obtain ⟨t, ht, h2⟩ := Option.bind_eq_some_iff.1 h'; obtain ⟨o, ho, h3⟩ := Option.bind_eq_some_iff.1 ht; clear h' ht; by_cases hc : l0_4.length ≤ 64 ∧ (List.range l0_4.length).all (fun b => (flow_Prev.f (l0_4.length + 20) l0_0 l0_1 a0_2 a0_3 l0_4 (b : Int)).isSome) = true
 ·rw [if_pos hc] at h3
  obtain ⟨hn, hall⟩ := hc; have hG : H.Grows w A0_0 A0_1 A0_4 l0_0.length c0_0 l0_1.length c0_1 l0_4.length c0_4 a0_2 a0_3 t.1 t.2 := by
   intro w1 hb; refine H.grow_any o _ 140 70 t.1 t.2 (fun w2 hb2 => ?_) (fun w2 b hb2 b0 b1 => ?_) (fun ab pl a b m ga gp w1 la lp ca cp h => H.meet_any 140 ab pl a b m ga gp w1 la lp ca cp h) (by omega) h3
   ·have hb3 := hb.trans (hb2.mono hb.size)
    exact flow_Order.calls A0_0 c0_0 l0_0 A0_1 c0_1 l0_1 a0_2 a0_3 A0_4 c0_4 l0_4 o w2 (Kd.C_below hr0_0 hb3) hc0_0 (Kd.C_below hr0_1 hb3) hc0_1 (Kd.C_below hr0_4 hb3) hc0_4 ho
   ·have hb3 := hb.trans (hb2.mono hb.size)
    have h5 := List.all_eq_true.1 hall b.toNat (List.mem_range.2 (by omega)); rw [Int.toNat_of_nonneg (by omega)] at h5; obtain ⟨q, hq⟩ := Option.isSome_iff_exists.1 h5; have e : (flow_Prev.f (l0_4.length + 20) l0_0 l0_1 a0_2 a0_3 l0_4 b).getD [] = q := by rw [hq]; rfl
    refine (flow_Prev.calls (l0_4.length + 20) A0_0 c0_0 l0_0 A0_1 c0_1 l0_1 a0_2 a0_3 A0_4 c0_4 l0_4 b q w2 (Kd.C_below hr0_0 hb3) hc0_0 (Kd.C_below hr0_1 hb3) hc0_1 (Kd.C_below hr0_4 hb3) hc0_4 hq).mono ?_; rintro e4 w4 ⟨v4, e5, hR4, hB4⟩; rw [← e] at hR4; exact ⟨v4, e5, hR4, hB4⟩
  exact H.Dominates_any hG 70 a1 a2 r h2
 ·rw [if_neg hc] at h3
  cases h3
def dom_Above.f (l0_0 : List Int) (l0_1 : List Int) (a0_2 : Int) (a0_3 : Int) (l0_4 : List (S50)) : Option (List Int) := ((flow_Order.f l0_0 l0_1 a0_2 a0_3 l0_4).bind fun o => if l0_4.length ≤ 64 ∧ (List.range l0_4.length).all (fun b => (flow_Prev.f (l0_4.length + 20) l0_0 l0_1 a0_2 a0_3 l0_4 (b : Int)).isSome) = true then Go.Proofs.Ytcknmcfomkbenaa.D.growF l0_4.length o (fun b => (flow_Prev.f (l0_4.length + 20) l0_0 l0_1 a0_2 a0_3 l0_4 b).getD []) 140 70 else none).map fun t => t.1
set_option maxHeartbeats 8000000 in
set_option maxRecDepth 100000 in
theorem dom_Above.calls (A0_0 : Option Addr) (c0_0 : Nat) (l0_0 : List Int) (A0_1 : Option Addr) (c0_1 : Nat) (l0_1 : List Int) (a0_2 : Int) (a0_3 : Int) (A0_4 : Option Addr) (c0_4 : Nat) (l0_4 : List (S50)) (r : List Int) (w : World) (hr0_0 : Kd.C (Kd.int .i64) w A0_0 l0_0.length l0_0) (hc0_0 : l0_0.length ≤ c0_0) (hr0_1 : Kd.C (Kd.int .i64) w A0_1 l0_1.length l0_1) (hc0_1 : l0_1.length ≤ c0_1) (hr0_4 : Kd.C k50 w A0_4 l0_4.length l0_4) (hc0_4 : l0_4.length ≤ c0_4) (h : dom_Above.f l0_0 l0_1 a0_2 a0_3 l0_4 = some r) :
  Calls Try.prog 50 #[.agg #[.slice A0_0 l0_0.length c0_0, .slice A0_1 l0_1.length c0_1, .int .i64 a0_2, .int .i64 a0_3, .slice A0_4 l0_4.length c0_4]] w fun e w' => ∃ v0_ : Value, e = .returned (v0_) ∧ Kd.R (Kd.int .i64) 3 w' w.heap.size (fun _ => True) v0_ r ∧ Below w.heap.size w w' := by
 have h' : (((flow_Order.f l0_0 l0_1 a0_2 a0_3 l0_4).bind fun o => if l0_4.length ≤ 64 ∧ (List.range l0_4.length).all (fun b => (flow_Prev.f (l0_4.length + 20) l0_0 l0_1 a0_2 a0_3 l0_4 (b : Int)).isSome) = true then Go.Proofs.Ytcknmcfomkbenaa.D.growF l0_4.length o (fun b => (flow_Prev.f (l0_4.length + 20) l0_0 l0_1 a0_2 a0_3 l0_4 b).getD []) 140 70 else none).map fun t => t.1) = some r := h; clear h; obtain ⟨t, ht, h2⟩ := Option.map_eq_some_iff.1 h'; obtain ⟨o, ho, h3⟩ := Option.bind_eq_some_iff.1 ht; clear h' ht; by_cases hc : l0_4.length ≤ 64 ∧ (List.range l0_4.length).all (fun b => (flow_Prev.f (l0_4.length + 20) l0_0 l0_1 a0_2 a0_3 l0_4 (b : Int)).isSome) = true
 ·rw [if_pos hc] at h3
  obtain ⟨hn, hall⟩ := hc; have hG : H.Grows w A0_0 A0_1 A0_4 l0_0.length c0_0 l0_1.length c0_1 l0_4.length c0_4 a0_2 a0_3 t.1 t.2 := by
   intro w1 hb; refine H.grow_any o _ 140 70 t.1 t.2 (fun w2 hb2 => ?_) (fun w2 b hb2 b0 b1 => ?_) (fun ab pl a b m ga gp w1 la lp ca cp h => H.meet_any 140 ab pl a b m ga gp w1 la lp ca cp h) (by omega) h3
   ·have hb3 := hb.trans (hb2.mono hb.size)
    exact flow_Order.calls A0_0 c0_0 l0_0 A0_1 c0_1 l0_1 a0_2 a0_3 A0_4 c0_4 l0_4 o w2 (Kd.C_below hr0_0 hb3) hc0_0 (Kd.C_below hr0_1 hb3) hc0_1 (Kd.C_below hr0_4 hb3) hc0_4 ho
   ·have hb3 := hb.trans (hb2.mono hb.size)
    have h5 := List.all_eq_true.1 hall b.toNat (List.mem_range.2 (by omega)); rw [Int.toNat_of_nonneg (by omega)] at h5; obtain ⟨q, hq⟩ := Option.isSome_iff_exists.1 h5; have e : (flow_Prev.f (l0_4.length + 20) l0_0 l0_1 a0_2 a0_3 l0_4 b).getD [] = q := by rw [hq]; rfl
    refine (flow_Prev.calls (l0_4.length + 20) A0_0 c0_0 l0_0 A0_1 c0_1 l0_1 a0_2 a0_3 A0_4 c0_4 l0_4 b q w2 (Kd.C_below hr0_0 hb3) hc0_0 (Kd.C_below hr0_1 hb3) hc0_1 (Kd.C_below hr0_4 hb3) hc0_4 hq).mono ?_; rintro e4 w4 ⟨v4, e5, hR4, hB4⟩; rw [← e] at hR4; exact ⟨v4, e5, hR4, hB4⟩
  subst h2; exact H.Above_any hG hn
 ·rw [if_neg hc] at h3
  cases h3
def bitset_Has.f (l0 : List Int) (a1 : Int) : Option (Bool) := if a1 ≥ 0 then (if (wrap64 (Int.tdiv a1 64)) < (l0.length : Int) then (if 0 ≤ (wrap64 (Int.tdiv a1 64)) then (if 0 ≤ (Int.tmod a1 64) then (some ((Go.bits .and .u64 (shr .u64 (rd l0 (wrap64 (Int.tdiv a1 64))) (Int.tmod a1 64)) 1) == 1)) else (none)) else (none)) else (some false)) else (some false)
set_option maxHeartbeats 8000000 in
set_option maxRecDepth 100000 in
theorem bitset_Has.calls (A0 : Option Addr) (c0 : Nat) (l0 : List Int) (a1 : Int) (r : Bool) (w : World) (hr0 : Kd.C (Kd.int .u64) w A0 l0.length l0) (hc0 : l0.length ≤ c0) (h : bitset_Has.f l0 a1 = some r) :
  Calls Try.prog 85 #[.slice A0 l0.length c0, .int .i64 a1] w fun e w' => e = .returned (.bool r) ∧ Drawn0 w w' := by
 have HR0 := Aside0.mk hr0; have HC0 := Aside0.mk hc0; clear hr0 hc0; have H : (if a1 ≥ 0 then (if (wrap64 (Int.tdiv a1 64)) < (l0.length : Int) then (if 0 ≤ (wrap64 (Int.tdiv a1 64)) then (if 0 ≤ (Int.tmod a1 64) then (some ((Go.bits .and .u64 (shr .u64 (rd l0 (wrap64 (Int.tdiv a1 64))) (Int.tmod a1 64)) 1) == 1)) else (none)) else (none)) else (some false)) else (some false)) = some r := h; clear h; by_cases c3 : a1 ≥ 0
 ·rw [if_pos c3] at H
  have c3b0 : decide (0 ≤ a1) = true := decide_eq_true c3; clear c3; by_cases c4 : (wrap64 (Int.tdiv a1 64)) < (l0.length : Int)
  ·rw [if_pos c4] at H
   have c4b0 : decide ((wrap64 (Int.tdiv a1 64)) < (l0.length : Int)) = true := decide_eq_true c4; clear c4; obtain ⟨ji5, hji5⟩ : ∃ j_ : Int, (wrap64 (Int.tdiv a1 64)) = j_ := ⟨_, rfl⟩
   replace H : (if 0 ≤ (ji5) then (if 0 ≤ (Int.tmod a1 64) then (some ((Go.bits .and .u64 (shr .u64 (rd l0 (ji5)) (Int.tmod a1 64)) 1) == 1)) else (none)) else (none)) = some r := by first | (rw [hji5] at H; exact H) | (simp only [hji5] at H ⊢; exact H)
   (try rw [hji5] at c4b0)
   have hji5w : (IntKind.i64.wrap (Int.tdiv a1 64)) = ji5 := (i64_w _).trans hji5; by_cases c6 : 0 ≤ (ji5)
   ·rw [if_pos c6] at H
    have c6b0 : decide (0 ≤ (ji5)) = true := decide_eq_true c6; clear c6; obtain ⟨ji7, hji7⟩ : ∃ j_ : Int, (Int.tmod a1 64) = j_ := ⟨_, rfl⟩
    replace H : (if 0 ≤ (ji7) then (some ((Go.bits .and .u64 (shr .u64 (rd l0 (ji5)) (ji7)) 1) == 1)) else (none)) = some r := by first | (rw [hji7] at H; exact H) | (simp only [hji7] at H ⊢; exact H)
    by_cases c8 : 0 ≤ (ji7)
    ·rw [if_pos c8] at H
     have c8b0 := eq_true c8; have c8b1 : decide (0 ≤ (ji7)) = true := decide_eq_true c8; clear c8; obtain ⟨ji9, hji9⟩ : ∃ j_ : Int, (shr .u64 (rd l0 (ji5)) (ji7)) = j_ := ⟨_, rfl⟩
     replace H : (some ((Go.bits .and .u64 (ji9) 1) == 1)) = some r := by first | (rw [hji9] at H; exact H) | (simp only [hji9] at H ⊢; exact H)
     have hji9_ : ((rd l0 (ji5)) / 2 ^ min (ji7).toNat 64) = ji9 := hji9; have hji9z : (ji7) ≤ 64 → ((rd l0 (ji5)) / 2 ^ (ji7).toNat) = ji9 := shr_small hji9; obtain rfl := Option.some.inj H; have p495 : 0 ≤ ((ji5) : Int) := of_decide_eq_true (by first | (with_reducible assumption) | assumption); have q495 : (ji5) < (l0.length : Int) := of_decide_eq_true (by first | (with_reducible assumption) | assumption); obtain ⟨ad495, e495, hx495_0⟩ := Kd.at_int HR0.out (ji5) p495 q495; cases e495; replace p495 := eq_true p495; replace q495 := eq_true q495; go_enter Try.func85, Try.ntmps85; go_wp2; go_ret
     exact ⟨by first | rfl | (simp; done) | (simp only [← hji5, ← hji7, ← hji9] <;> (first | rfl | simp)) | (simp [*]; done), by repeat (first | exact Drawn0.refl _ | apply Drawn0.step)⟩
    ·rw [if_neg c8] at H
     exact absurd H (by simp)
   ·rw [if_neg c6] at H
    exact absurd H (by simp)
  ·rw [if_neg c4] at H
   have c4b0 : decide ((wrap64 (Int.tdiv a1 64)) < (l0.length : Int)) = false := decide_eq_false c4; clear c4; obtain rfl := Option.some.inj H; go_enter Try.func85, Try.ntmps85; go_wp2; go_ret
   exact ⟨by first | rfl | (simp; done) | (simp [*]; done), by repeat (first | exact Drawn0.refl _ | apply Drawn0.step)⟩
 ·rw [if_neg c3] at H
  have c3b0 : decide (0 ≤ a1) = false := decide_eq_false c3; clear c3; obtain rfl := Option.some.inj H; go_enter Try.func85, Try.ntmps85; go_wp2; go_ret
  exact ⟨by first | rfl | (simp; done) | (simp [*]; done), by repeat (first | exact Drawn0.refl _ | apply Drawn0.step)⟩
def slices_Clone_uint64_uint64.f (l0 : List Int) : Option (List Int) := if l0.length ≤ 17592186044416 then some l0 else none
set_option maxHeartbeats 8000000 in
set_option maxRecDepth 100000 in
theorem slices_Clone_uint64_uint64.calls (A0 : Option Addr) (c0 : Nat) (l0 : List Int) (r : List Int) (w : World) (hr0 : Kd.C (Kd.int .u64) w A0 l0.length l0) (hc0 : l0.length ≤ c0) (h : slices_Clone_uint64_uint64.f l0 = some r) :
  Calls Try.prog 126 #[.slice A0 l0.length c0] w fun e w' => ∃ v0_ : Value, e = .returned (v0_) ∧ Kd.R (Kd.int .u64) 124 w' w.heap.size (fun _ => True) v0_ r ∧ Below w.heap.size w w' := by
 have h' : (if l0.length ≤ 17592186044416 then some l0 else none) = some r := h; clear h; by_cases hl : l0.length ≤ 17592186044416
 ·rw [if_pos hl] at h'
  obtain rfl := Option.some.inj h'; exact H.clone64_any A0 c0 l0 w hr0 hl
 ·rw [if_neg hl] at h'
  cases h'
def bitset_neat.l0 : Nat → List Int → Option (List Int)
 | 0, _ => none
 | k + 1, x0 => if (x0.length : Int) > 0 then (if 0 ≤ (wrap64 ((x0.length : Int) - 1)) then (if (wrap64 ((x0.length : Int) - 1)) < (x0.length : Int) then (if (rd x0 (wrap64 ((x0.length : Int) - 1))) = 0 then (if (wrap64 ((x0.length : Int) - 1)) ≤ (x0.length : Int) then (bitset_neat.l0 k (x0.take ((wrap64 ((x0.length : Int) - 1)) : Int).toNat)) else (none)) else (some x0)) else (none)) else (none)) else (some x0)
def bitset_neat.f (k : Nat) (l0 : List Int) : Option (List Int) := bitset_neat.l0 k l0
set_option maxHeartbeats 8000000 in
set_option maxRecDepth 100000 in
theorem bitset_neat.calls (k : Nat) (P0_ : Nat → Prop) (A0 : Option Addr) (c0 : Nat) (l0 : List Int) (r : List Int) (w : World) (hs0 : Kd.V (Kd.int .u64) 124 w w.heap.size (fun k_ => P0_ k_) (.slice A0 l0.length c0) l0) (h : bitset_neat.f k l0 = some r) :
  Calls Try.prog 127 #[.slice A0 l0.length c0] w fun e w' => ∃ v0_ : Value, e = .returned (v0_) ∧ Kd.V (Kd.int .u64) 124 w' w.heap.size (fun k_ => (P0_ k_ ∨ w.heap.size ≤ k_)) v0_ r ∧ Below w.heap.size w w' := by
 have HO0 := Aside0.mk (show Kd.V (Kd.int .u64) 124 w w.heap.size (fun k_ => (P0_ k_ ∨ w.heap.size ≤ k_)) (.slice A0 l0.length c0) l0 from Kd.V_mono hs0 (fun k_ hk => .inl hk)); have HB := Aside0.mk (Below.refl w.heap.size w); have H : (bitset_neat.l0 k l0) = some r := h; clear h; have H' := Aside0.mk H; clear H; go_enter Try.func127, Try.ntmps127; go_wp2; go_loopg [0] k (fun kq v0 w' => ∃ (x0_1 : List Int), Aside0 (bitset_neat.l0 kq x0_1 = some r) ∧ Aside0 (kq ≤ k) ∧ Aside0 (Kd.V (Kd.int .u64) 124 w' w.heap.size (fun k_ => (P0_ k_ ∨ w.heap.size ≤ k_)) v0 x0_1) ∧ Aside0 (Below w.heap.size w w'))
 case atStart => exact ⟨(l0), H', ⟨Nat.le_refl _⟩, ⟨by (with_reducible repeat (first | apply Kd.V_alloc | apply Kd.V_drewN | apply Kd.V_drew)); exact HO0.out⟩, ⟨by repeat (first | (with_reducible first | exact HB.out | apply zq5 | apply zq4 | apply zq6) | exact HB.out)⟩⟩
 case round =>
  clear H'; obtain ⟨x0_1, HA, HK1, HO_0, HB⟩ := hrel; cases gk with
  | zero => exact absurd HA.out (by simp [bitset_neat.l0])
  | succ k1 =>
   have H := HA.out; clear HA; simp only [bitset_neat.l0] at H; by_cases c2 : (x0_1.length : Int) > 0
   ·rw [if_pos c2] at H
    have c2b0 : decide (0 < (x0_1.length : Int)) = true := decide_eq_true c2; have c2b1 : decide (0 < x0_1.length) = true := decide_eq_true (by omega); clear c2; obtain ⟨ji3, hji3⟩ : ∃ j_ : Int, (wrap64 ((x0_1.length : Int) - 1)) = j_ := ⟨_, rfl⟩
    replace H : (if 0 ≤ (ji3) then (if (ji3) < (x0_1.length : Int) then (if (rd x0_1 (ji3)) = 0 then (if (ji3) ≤ (x0_1.length : Int) then (bitset_neat.l0 k1 (x0_1.take ((ji3) : Int).toNat)) else (none)) else (some x0_1)) else (none)) else (none)) = some r := by first | (rw [hji3] at H; exact H) | (simp only [hji3] at H ⊢; exact H)
    have hji3w : (IntKind.i64.wrap ((x0_1.length : Int) - 1)) = ji3 := (i64_w _).trans hji3; by_cases c4 : 0 ≤ (ji3)
    ·rw [if_pos c4] at H
     have c4b0 : decide (0 ≤ (ji3)) = true := decide_eq_true c4; clear c4; by_cases c5 : (ji3) < (x0_1.length : Int)
     ·rw [if_pos c5] at H
      have c5b0 : decide ((ji3) < (x0_1.length : Int)) = true := decide_eq_true c5; clear c5; by_cases c6 : (rd x0_1 (ji3)) = 0
      ·rw [if_pos c6] at H
       have c6b0 : ((rd x0_1 (ji3)) == 0) = true := beq_iff_eq.mpr c6; have c6b1 : ((rd x0_1 (ji3)) != 0) = false := bne_eq_false_iff_eq.mpr c6; clear c6; have c7b0 := eq_true (of_decide_eq_true (by first | (with_reducible assumption) | assumption) : 0 ≤ (ji3)); by_cases c8 : (ji3) ≤ (x0_1.length : Int)
       ·rw [if_pos c8] at H
        have c8b0 := eq_true c8; have c8b1 : decide ((ji3) ≤ (x0_1.length : Int)) = true := decide_eq_true c8; clear c8; obtain ⟨y500, hy500⟩ : ∃ y_ : List Int, y_ = (x0_1.take ((ji3) : Int).toNat) := ⟨_, rfl⟩
        replace H : (bitset_neat.l0 k1 y500) = some r := by first | (rw [hy500]; with_reducible exact H) | (have H2_ := (Option.bind_some _ _).symm.trans H; rw [hy500]; with_reducible exact H2_) | (have H2_ := (Option.bind_some _ _).symm.trans H; with_reducible exact H2_) | with_reducible exact H | (rw [hy500]; exact H) | exact H
        have Ny500 := Aside0.mk hy500; clear hy500; have H' := Aside0.mk H; clear H; obtain ⟨Ao9, co9, eo9⟩ := Kd.V_slice HO_0.out; subst eo9; have p499 : 0 ≤ ((ji3) : Int) := of_decide_eq_true (by first | (with_reducible assumption) | assumption); have q499 : (ji3) < (x0_1.length : Int) := of_decide_eq_true (by first | (with_reducible assumption) | assumption); obtain ⟨ad499, e499, hx499_0⟩ := Kd.at_int (Kd.V_reads' HO_0.out).2.2 (ji3) p499 q499; cases e499; replace p499 := eq_true p499; replace q499 := eq_true q499; have q10 : ((ji3) : Int) ≤ ((x0_1.length : Int) : Int) := of_decide_eq_true (by first | (with_reducible assumption) | assumption); obtain ⟨i010, hi010, _, hsz10, _⟩ := info_parts info124; have hroom10 : x0_1.length ≤ co9 := (Kd.V_reads' HO_0.out).2.1; have hC10 : Kd.F (Kd.int .u64) _ _ (some ad499) x0_1.length x0_1 := (Kd.V_at (base := w.heap.size) HO_0.out).2.2; have hcut10 := cut_to (P := Try.prog) 90 124 .i64 Try.underlying90 hi010 (some ad499) x0_1.length co9 (ji3) (of_decide_eq_true (by first | (with_reducible assumption) | assumption)) q10 hroom10; have hr10 := Kd.F_take (m := ((ji3) : Int).toNat) hC10 (by omega); have hy10 : y500.length = ((ji3) : Int).toNat := (by rw [Ny500.out, List.length_take]; omega); rw [← Ny500.out] at hr10; rw [← hy10] at hcut10; have HO504 := Aside0.mk (show Kd.V (Kd.int .u64) 124 _ w.heap.size _ (.slice (some ad499) y500.length co9) y500 from Kd.V_mk (by omega) hr10); have HC504 := Aside0.mk (show y500.length ≤ co9 from by omega); clear hr10 hC10 hroom10 hi010 hsz10; have KY10 := Aside0.mk hy10; clear hy10; replace q10 := eq_true q10; go_wp2; go_roundg k1
        case measure => have := HK1.out; omega
        case rel => exact ⟨(y500), H', ⟨by have := HK1.out; omega⟩, ⟨by (with_reducible repeat (first | apply Kd.V_alloc | apply Kd.V_drewN | apply Kd.V_drew)); exact HO504.out⟩, ⟨by repeat (first | (with_reducible first | exact HB.out | apply zq5 | apply zq4 | apply zq6) | exact HB.out)⟩⟩
       ·rw [if_neg c8] at H
        exact absurd H (by simp)
      ·rw [if_neg c6] at H
       have c6b0 : ((rd x0_1 (ji3)) == 0) = false := beq_eq_false_iff_ne.mpr c6; have c6b1 : ((rd x0_1 (ji3)) != 0) = true := bne_iff_ne.mpr c6; obtain rfl := Option.some.inj H; obtain ⟨Ao11, co11, eo11⟩ := Kd.V_slice HO_0.out; subst eo11; have p499 : 0 ≤ ((ji3) : Int) := of_decide_eq_true (by first | (with_reducible assumption) | assumption); have q499 : (ji3) < (x0_1.length : Int) := of_decide_eq_true (by first | (with_reducible assumption) | assumption); obtain ⟨ad499, e499, hx499_0⟩ := Kd.at_int (Kd.V_reads' HO_0.out).2.2 (ji3) p499 q499; cases e499; replace p499 := eq_true p499; replace q499 := eq_true q499; go_wp2; go_ret
       exact ⟨_, by first | rfl | (simp [errW_none, errW_some] <;> rfl) | (simp only [← hji3]; first | rfl | (simp [errW_none, errW_some] <;> rfl)) | (simp [*, errW_none, errW_some] <;> rfl), by (with_reducible repeat (first | apply Kd.V_alloc | apply Kd.V_drewN | apply Kd.V_drew)); exact HO_0.out, by repeat (first | (with_reducible first | exact HB.out | apply zq5 | apply zq4 | apply zq6) | exact HB.out)⟩
     ·rw [if_neg c5] at H
      exact absurd H (by simp)
    ·rw [if_neg c4] at H
     exact absurd H (by simp)
   ·rw [if_neg c2] at H
    have c2b0 : decide (0 < (x0_1.length : Int)) = false := decide_eq_false c2; have c2b1 : decide (0 < x0_1.length) = false := decide_eq_false (by omega); clear c2; obtain rfl := Option.some.inj H; obtain ⟨Ao12, co12, eo12⟩ := Kd.V_slice HO_0.out; subst eo12; go_wp2; go_ret
    exact ⟨_, by first | rfl | (simp [errW_none, errW_some] <;> rfl) | (simp [*, errW_none, errW_some] <;> rfl), by (with_reducible repeat (first | apply Kd.V_alloc | apply Kd.V_drewN | apply Kd.V_drew)); exact HO_0.out, by repeat (first | (with_reducible first | exact HB.out | apply zq5 | apply zq4 | apply zq6) | exact HB.out)⟩
mutual
def bitset_With.l0 : Nat → List Int → List Int → Int → Int → Option (List Int)
 | 0, _, _, _, _ => none
 | k + 1, x0, x10, x11, x12 => if x12 < x11 then (if 0 ≤ x12 then (if x12 < (x10.length : Int) then (if (rd x10 x12) < 0 then (bitset_With.j1 k x0 (rd x10 x12) x10 x11 x12 true) else (bitset_With.j1 k x0 (rd x10 x12) x10 x11 x12 (decide ((rd x10 x12) ≥ 4096)))) else (none)) else (none)) else ((bitset_neat.f k x0).bind fun t508 => (some t508))
def bitset_With.j1 : Nat → List Int → Int → List Int → Int → Int → Bool → Option (List Int)
 | 0, _, _, _, _, _, _ => none
 | k + 1, x0, x6, x10, x11, x12, x21 => if x21 = true then (bitset_With.l0 k x0 x10 x11 (wrap64 (x12 + 1))) else (if (wrap64 ((wrap64 ((wrap64 (Int.tdiv x6 64)) + 1)) - (x0.length : Int))) > 0 then (if 0 ≤ (wrap64 ((wrap64 ((wrap64 (Int.tdiv x6 64)) + 1)) - (x0.length : Int))) then (if x0.length + (wrap64 ((wrap64 ((wrap64 (Int.tdiv x6 64)) + 1)) - (x0.length : Int)) : Int).toNat < 17592186044416 then ((some (x0 ++ List.replicate (wrap64 ((wrap64 ((wrap64 (Int.tdiv x6 64)) + 1)) - (x0.length : Int)) : Int).toNat 0 : List Int)).bind fun y512 => (if 0 ≤ (wrap64 (Int.tdiv x6 64)) then (if (wrap64 (Int.tdiv x6 64)) < (y512.length : Int) then (if 0 ≤ (Int.tmod x6 64) then (bitset_With.l0 k (y512.set ((wrap64 (Int.tdiv x6 64)) : Int).toNat (Go.bits .or .u64 (rd y512 (wrap64 (Int.tdiv x6 64))) (shl .u64 1 (Int.tmod x6 64)))) x10 x11 (wrap64 (x12 + 1))) else (none)) else (none)) else (none))) else (none)) else (none)) else (if 0 ≤ (wrap64 (Int.tdiv x6 64)) then (if (wrap64 (Int.tdiv x6 64)) < (x0.length : Int) then (if 0 ≤ (Int.tmod x6 64) then (bitset_With.l0 k (x0.set ((wrap64 (Int.tdiv x6 64)) : Int).toNat (Go.bits .or .u64 (rd x0 (wrap64 (Int.tdiv x6 64))) (shl .u64 1 (Int.tmod x6 64)))) x10 x11 (wrap64 (x12 + 1))) else (none)) else (none)) else (none)))
end
def bitset_With.f (k : Nat) (l0 : List Int) (l1 : List Int) : Option (List Int) := (slices_Clone_uint64_uint64.f l0).bind fun t505 => (bitset_With.l0 k t505 l1 (l1.length : Int) 0)
def bitset_With.T9 : Bool × List (List Nat × List Nat) := (true, [([], []), ([], []), ([1], [1]), ([0, 2], [0, 2]), ([3], [3]), ([], []), ([5], [5]), ([6], [6]), ([4, 7], [4, 7]), ([0, 2, 0, 1, 2, 3, 4, 5, 6, 7, 8], [0, 2]), ([9, 8, 0, 1, 2, 3, 4, 5, 6, 7, 8], [8, 9])])
def bitset_With.B9 : List Nat := [0, 0, 2, 7, 15, 0, 32, 96, 255, 511, 1023]
theorem bitset_With.tab9 : rtab .any (opsOf Try.f111 9) = bitset_With.T9 := by kernel_rfl
theorem bitset_With.bits9 : waitsOk bitset_With.T9.2 bitset_With.B9 = true := by kernel_rfl
set_option maxHeartbeats 8000000 in
set_option maxRecDepth 100000 in
theorem bitset_With.calls (k : Nat) (A0 : Option Addr) (c0 : Nat) (l0 : List Int) (A1 : Option Addr) (c1 : Nat) (l1 : List Int) (r : List Int) (w : World) (hr0 : Kd.C (Kd.int .u64) w A0 l0.length l0) (hc0 : l0.length ≤ c0) (hr1 : Kd.C (Kd.int .i64) w A1 l1.length l1) (hc1 : l1.length ≤ c1) (h : bitset_With.f k l0 l1 = some r) :
  Calls Try.prog 111 #[.slice A0 l0.length c0, .slice A1 l1.length c1] w fun e w' => ∃ v0_ : Value, e = .returned (v0_) ∧ Kd.V (Kd.int .u64) 124 w' w.heap.size (fun k_ => (w.heap.size ≤ k_)) v0_ r ∧ Below w.heap.size w w' := by
 have HR0 := Aside0.mk hr0; have HC0 := Aside0.mk hc0; clear hr0 hc0; have HR1 := Aside0.mk hr1; have HC1 := Aside0.mk hc1; clear hr1 hc1; have HB := Aside0.mk (Below.refl w.heap.size w); have H : ((slices_Clone_uint64_uint64.f l0).bind fun t505 => (bitset_With.l0 k t505 l1 (l1.length : Int) 0)) = some r := h; clear h; replace H := Option.bind_eq_some_iff.mp H; obtain ⟨t505, A30, H⟩ := H; replace H : (bitset_With.l0 k t505 l1 (l1.length : Int) 0) = some r := H; have A3 := Aside0.mk A30; clear A30; have H' := Aside0.mk H; clear H; go_enter Try.func111, Try.ntmps111; go_wp2_with (first | ((with_reducible refine gate_callee (f := 126) rfl ?_); refine goesL_ (some 9) rfl rfl Try.func126 (by kernel_rfl) rfl #[.slice A0 l0.length c0] rfl (by (try simp only [List.map_toArray, List.map_cons, List.map_nil]); first | done | rfl | (simp only [List.length_drop, List.length_take]; rfl)) ?_; (with_reducible refine (slices_Clone_uint64_uint64.calls _ _ l0 t505 _ ?side1 ?side2 A3.out).mono ?_); (case side1 => repeat (first | exact HR0.out | (with_reducible refine Kd.C_alloc ?_ _) | (with_reducible refine Kd.C_drewN ?_ _) | (with_reducible refine Kd.C_drew ?_))); (case side2 => exact HC0.out); rintro e w4 ⟨v506, rfl, ho0, hb⟩; refine ⟨_, rfl, ?_⟩; have n0_ := Aside0.mk (Kd.R_lower (Kd.R_newM (M := fun k_ => (w.heap.size ≤ k_)) ho0 (below_size (by repeat (first | (with_reducible first | exact HB.out | apply zq5 | apply zq4 | apply zq6) | exact HB.out))) (fun k_ h_ => h_)) (below_size (by repeat (first | (with_reducible first | exact HB.out | apply zq5 | apply zq4 | apply zq6) | exact HB.out)))); have n1_ := Aside0.mk (below_step (by repeat (first | (with_reducible first | exact HB.out | apply zq5 | apply zq4 | apply zq6) | exact HB.out)) hb); clear HB; have HO507 := n0_; have HB := n1_; clear n0_ n1_; (try clear hb); (try clear hb2); (try clear hk); (try clear hi); (try clear ho0))); go_loopg [0, 12] k (fun kq v0 v12 w' => ∃ (x0_1 : List Int) (x12_1 : Int), v12 = .int .i64 x12_1 ∧ Aside0 (bitset_With.l0 kq x0_1 l1 (l1.length : Int) x12_1 = some r) ∧ Aside0 (kq ≤ k) ∧ Aside0 (Kd.R (Kd.int .u64) 124 w' w.heap.size (fun k_ => (w.heap.size ≤ k_)) v0 x0_1) ∧ Aside0 (Below w.heap.size w w'))
 case atStart => exact ⟨(t505), (0), (by first | rfl | (simp; done) | (simp [*]; done)), H', ⟨Nat.le_refl _⟩, ⟨by (with_reducible repeat (first | apply Kd.R_alloc | apply Kd.R_drewN | apply Kd.R_drew)); exact Kd.R_mono HO507.out (fun _ hk => hk.1)⟩, ⟨by repeat (first | (with_reducible first | exact HB.out | apply zq5 | apply zq4 | apply zq6) | exact HB.out)⟩⟩
 case round =>
  clear H'; try clear c1
  obtain ⟨x0_1, x12_1, rfl, HA, HK1, HO_0, HB⟩ := hrel; cases gk with
  | zero => exact absurd HA.out (by simp [bitset_With.l0])
  | succ k1 =>
   have H := HA.out; clear HA; simp only [bitset_With.l0] at H; by_cases c5 : x12_1 < (l1.length : Int)
   ·rw [if_pos c5] at H
    have c5b0 : decide (x12_1 < (l1.length : Int)) = true := decide_eq_true c5; clear c5; by_cases c6 : 0 ≤ x12_1
    ·rw [if_pos c6] at H
     have c6b0 : decide (0 ≤ x12_1) = true := decide_eq_true c6; clear c6; by_cases c7 : x12_1 < (l1.length : Int)
     ·rw [if_pos c7] at H
      have c7b0 : decide (x12_1 < (l1.length : Int)) = true := decide_eq_true c7; clear c7; have HC8 := Aside0.mk H; clear H; have p511 : 0 ≤ (x12_1 : Int) := of_decide_eq_true (by first | (with_reducible assumption) | assumption); have q511 : x12_1 < (l1.length : Int) := of_decide_eq_true (by first | (with_reducible assumption) | assumption); obtain ⟨ad511, e511, hx511_0⟩ := Kd.at_int HR1.out x12_1 p511 q511; cases e511; replace hx511_0 := (HB.out.cell (World.block_lt_of_cell? w _ hx511_0)).trans hx511_0; replace p511 := eq_true p511; replace q511 := eq_true q511; go_upto_region 5 with (fail)
      go_cut [21] (fun v21 wc => ∃ (kq : Nat) (x21_7 : Bool), v21 = .bool x21_7 ∧ Aside0 (bitset_With.j1 kq x0_1 (rd l1 x12_1) l1 (l1.length : Int) x12_1 x21_7 = some r) ∧ Aside0 (kq ≤ k1) ∧ Aside0 (Kd.R (Kd.int .u64) 124 wc w.heap.size (fun k_ => (w.heap.size ≤ k_)) u0 x0_1) ∧ Aside0 (Below w.heap.size w wc))
      case first =>
       have H := HC8.out; clear HC8; by_cases c9 : (rd l1 x12_1) < 0
       ·rw [if_pos c9] at H
        have c9b0 : decide ((rd l1 x12_1) < 0) = true := decide_eq_true c9; clear c9; (first | rw [c9b0] | (simp only [i64_w, i32_w]; rw [c9b0]) | skip)
        have H' := Aside0.mk H; clear H; go_wp2; go_meet
        case rel => exact ⟨_, (true), (by first | rfl | (simp; done) | (simp [*]; done)), H', ⟨by have := HK1.out; first | omega | exact Nat.le_refl _⟩, ⟨by (with_reducible repeat (first | apply Kd.R_alloc | apply Kd.R_drewN | apply Kd.R_drew)); exact HO_0.out⟩, ⟨by repeat (first | (with_reducible first | exact HB.out | apply zq5 | apply zq4 | apply zq6) | exact HB.out)⟩⟩
       ·rw [if_neg c9] at H
        have c9b0 : decide ((rd l1 x12_1) < 0) = false := decide_eq_false c9; clear c9; (first | rw [c9b0] | (simp only [i64_w, i32_w]; rw [c9b0]) | skip)
        have H' := Aside0.mk H; clear H; go_wp2; go_meet
        case rel => exact ⟨_, (decide ((rd l1 x12_1) ≥ 4096)), (by first | rfl | (simp; done) | (simp [*]; done)), H', ⟨by have := HK1.out; first | omega | exact Nat.le_refl _⟩, ⟨by (with_reducible repeat (first | apply Kd.R_alloc | apply Kd.R_drewN | apply Kd.R_drew)); exact HO_0.out⟩, ⟨by repeat (first | (with_reducible first | exact HB.out | apply zq5 | apply zq4 | apply zq6) | exact HB.out)⟩⟩
      case rest =>
       clear HC8; (try clear c1); (try clear c5); obtain ⟨kq, x21_7, rfl, HA, HJ7, HO_0, HB⟩ := hcut; cases kq with
       | zero => exact absurd HA.out (by simp [bitset_With.j1])
       | succ kj7 =>
        have H := HA.out; clear HA; simp only [bitset_With.j1] at H; by_cases c10 : x21_7 = true
        ·subst c10
         have H1 : (bitset_With.l0 kj7 x0_1 l1 (l1.length : Int) (wrap64 (x12_1 + 1))) = some r := by first | (rw [if_pos rfl] at H; exact H) | rfl
         clear H; have H := H1; clear H1; have H' := Aside0.mk H; clear H; go_wp2; go_roundg kj7
         case measure => have := HK1.out; have := HJ7.out; omega
         case rel => exact ⟨(x0_1), (wrap64 (x12_1 + 1)), (by first | rfl | (simp; done) | (simp [*]; done)), H', ⟨by have := HK1.out; have := HJ7.out; omega⟩, ⟨by (with_reducible repeat (first | apply Kd.R_alloc | apply Kd.R_drewN | apply Kd.R_drew)); exact HO_0.out⟩, ⟨by repeat (first | (with_reducible first | exact HB.out | apply zq5 | apply zq4 | apply zq6) | exact HB.out)⟩⟩
        ·replace c10 := Bool.eq_false_iff.mpr c10
         subst c10; have H1 : (if (wrap64 ((wrap64 ((wrap64 (Int.tdiv (rd l1 x12_1) 64)) + 1)) - (x0_1.length : Int))) > 0 then (if 0 ≤ (wrap64 ((wrap64 ((wrap64 (Int.tdiv (rd l1 x12_1) 64)) + 1)) - (x0_1.length : Int))) then (if x0_1.length + (wrap64 ((wrap64 ((wrap64 (Int.tdiv (rd l1 x12_1) 64)) + 1)) - (x0_1.length : Int)) : Int).toNat < 17592186044416 then ((some (x0_1 ++ List.replicate (wrap64 ((wrap64 ((wrap64 (Int.tdiv (rd l1 x12_1) 64)) + 1)) - (x0_1.length : Int)) : Int).toNat 0 : List Int)).bind fun y512 => (if 0 ≤ (wrap64 (Int.tdiv (rd l1 x12_1) 64)) then (if (wrap64 (Int.tdiv (rd l1 x12_1) 64)) < (y512.length : Int) then (if 0 ≤ (Int.tmod (rd l1 x12_1) 64) then (bitset_With.l0 kj7 (y512.set ((wrap64 (Int.tdiv (rd l1 x12_1) 64)) : Int).toNat (Go.bits .or .u64 (rd y512 (wrap64 (Int.tdiv (rd l1 x12_1) 64))) (shl .u64 1 (Int.tmod (rd l1 x12_1) 64)))) l1 (l1.length : Int) (wrap64 (x12_1 + 1))) else (none)) else (none)) else (none))) else (none)) else (none)) else (if 0 ≤ (wrap64 (Int.tdiv (rd l1 x12_1) 64)) then (if (wrap64 (Int.tdiv (rd l1 x12_1) 64)) < (x0_1.length : Int) then (if 0 ≤ (Int.tmod (rd l1 x12_1) 64) then (bitset_With.l0 kj7 (x0_1.set ((wrap64 (Int.tdiv (rd l1 x12_1) 64)) : Int).toNat (Go.bits .or .u64 (rd x0_1 (wrap64 (Int.tdiv (rd l1 x12_1) 64))) (shl .u64 1 (Int.tmod (rd l1 x12_1) 64)))) l1 (l1.length : Int) (wrap64 (x12_1 + 1))) else (none)) else (none)) else (none))) = some r := by first | (rw [if_neg (show ¬ (false = true) by decide)] at H; exact H) | rfl
         clear H; have H := H1; clear H1; by_cases c11 : (wrap64 ((wrap64 ((wrap64 (Int.tdiv (rd l1 x12_1) 64)) + 1)) - (x0_1.length : Int))) > 0
         ·rw [if_pos c11] at H
          have c11b0 : decide (0 < (wrap64 ((wrap64 ((wrap64 (Int.tdiv (rd l1 x12_1) 64)) + 1)) - (x0_1.length : Int)))) = true := decide_eq_true c11; clear c11; obtain ⟨ji12, hji12⟩ : ∃ j_ : Int, (wrap64 ((wrap64 ((wrap64 (Int.tdiv (rd l1 x12_1) 64)) + 1)) - (x0_1.length : Int))) = j_ := ⟨_, rfl⟩
          replace H : (if 0 ≤ (ji12) then (if x0_1.length + (ji12 : Int).toNat < 17592186044416 then ((some (x0_1 ++ List.replicate (ji12 : Int).toNat 0 : List Int)).bind fun y512 => (if 0 ≤ (wrap64 (Int.tdiv (rd l1 x12_1) 64)) then (if (wrap64 (Int.tdiv (rd l1 x12_1) 64)) < (y512.length : Int) then (if 0 ≤ (Int.tmod (rd l1 x12_1) 64) then (bitset_With.l0 kj7 (y512.set ((wrap64 (Int.tdiv (rd l1 x12_1) 64)) : Int).toNat (Go.bits .or .u64 (rd y512 (wrap64 (Int.tdiv (rd l1 x12_1) 64))) (shl .u64 1 (Int.tmod (rd l1 x12_1) 64)))) l1 (l1.length : Int) (wrap64 (x12_1 + 1))) else (none)) else (none)) else (none))) else (none)) else (none)) = some r := by first | (rw [hji12] at H; exact H) | (simp only [hji12] at H ⊢; exact H)
          (try rw [hji12] at c11b0)
          have hji12w : (IntKind.i64.wrap ((wrap64 ((wrap64 (Int.tdiv (rd l1 x12_1) 64)) + 1)) - (x0_1.length : Int))) = ji12 := (i64_w _).trans hji12; by_cases c13 : 0 ≤ (ji12)
          ·rw [if_pos c13] at H
           have c13b0 := eq_true c13; have c13b1 : decide (0 ≤ (ji12)) = true := decide_eq_true c13; clear c13; by_cases c14 : x0_1.length + (ji12 : Int).toNat < 17592186044416
           ·rw [if_pos c14] at H
            have LMc14 := Aside0.mk c14; clear c14; obtain ⟨y512, hy512⟩ : ∃ y_ : List Int, y_ = (x0_1 ++ List.replicate (ji12 : Int).toNat 0) := ⟨_, rfl⟩
            replace H : (if 0 ≤ (wrap64 (Int.tdiv (rd l1 x12_1) 64)) then (if (wrap64 (Int.tdiv (rd l1 x12_1) 64)) < (y512.length : Int) then (if 0 ≤ (Int.tmod (rd l1 x12_1) 64) then (bitset_With.l0 kj7 (y512.set ((wrap64 (Int.tdiv (rd l1 x12_1) 64)) : Int).toNat (Go.bits .or .u64 (rd y512 (wrap64 (Int.tdiv (rd l1 x12_1) 64))) (shl .u64 1 (Int.tmod (rd l1 x12_1) 64)))) l1 (l1.length : Int) (wrap64 (x12_1 + 1))) else (none)) else (none)) else (none)) = some r := by first | (rw [hy512]; with_reducible exact H) | (have H2_ := (Option.bind_some _ _).symm.trans H; rw [hy512]; with_reducible exact H2_) | (have H2_ := (Option.bind_some _ _).symm.trans H; with_reducible exact H2_) | with_reducible exact H | (rw [hy512]; exact H) | exact H
            have Ny512 := Aside0.mk hy512; clear hy512; obtain ⟨ji15, hji15⟩ : ∃ j_ : Int, (wrap64 (Int.tdiv (rd l1 x12_1) 64)) = j_ := ⟨_, rfl⟩
            replace H : (if 0 ≤ (ji15) then (if (ji15) < (y512.length : Int) then (if 0 ≤ (Int.tmod (rd l1 x12_1) 64) then (bitset_With.l0 kj7 (y512.set ((ji15) : Int).toNat (Go.bits .or .u64 (rd y512 (ji15)) (shl .u64 1 (Int.tmod (rd l1 x12_1) 64)))) l1 (l1.length : Int) (wrap64 (x12_1 + 1))) else (none)) else (none)) else (none)) = some r := by first | (rw [hji15] at H; exact H) | (simp only [hji15] at H ⊢; exact H)
            (try rw [hji15] at c11b0)
            have hji15w : (IntKind.i64.wrap (Int.tdiv (rd l1 x12_1) 64)) = ji15 := (i64_w _).trans hji15; (try rw [hji15] at hji12w)
            (try rw [hji15] at hji12)
            by_cases c16 : 0 ≤ (ji15)
            ·rw [if_pos c16] at H
             have c16b0 : decide (0 ≤ (ji15)) = true := decide_eq_true c16; clear c16; by_cases c17 : (ji15) < (y512.length : Int)
             ·rw [if_pos c17] at H
              have c17b0 : decide ((ji15) < (y512.length : Int)) = true := decide_eq_true c17; clear c17; obtain ⟨ji18, hji18⟩ : ∃ j_ : Int, (Int.tmod (rd l1 x12_1) 64) = j_ := ⟨_, rfl⟩
              replace H : (if 0 ≤ (ji18) then (bitset_With.l0 kj7 (y512.set ((ji15) : Int).toNat (Go.bits .or .u64 (rd y512 (ji15)) (shl .u64 1 (ji18)))) l1 (l1.length : Int) (wrap64 (x12_1 + 1))) else (none)) = some r := by first | (rw [hji18] at H; exact H) | (simp only [hji18] at H ⊢; exact H)
              by_cases c19 : 0 ≤ (ji18)
              ·rw [if_pos c19] at H
               have c19b0 := eq_true c19; have c19b1 : decide (0 ≤ (ji18)) = true := decide_eq_true c19; clear c19; obtain ⟨ji20, hji20⟩ : ∃ j_ : Int, (shl .u64 1 (ji18)) = j_ := ⟨_, rfl⟩
               replace H : (bitset_With.l0 kj7 (y512.set ((ji15) : Int).toNat (Go.bits .or .u64 (rd y512 (ji15)) (ji20))) l1 (l1.length : Int) (wrap64 (x12_1 + 1))) = some r := by first | (rw [hji20] at H; exact H) | (simp only [hji20] at H ⊢; exact H)
               have hji20_ : (IntKind.u64.wrap (1 * 2 ^ min (ji18).toNat 64)) = ji20 := hji20; have hji20z : (ji18) ≤ 64 → (IntKind.u64.wrap (1 * 2 ^ (ji18).toNat)) = ji20 := shl_small hji20; have hji20u : (IntKind.u64.wrap (2 ^ min (ji18).toNat 64)) = ji20 := by have h_ := hji20_; rw [Int.one_mul] at h_; exact h_
               have hji20v : (ji18) ≤ 64 → (IntKind.u64.wrap (2 ^ (ji18).toNat)) = ji20 := fun hle_ => by have h_ := hji20z hle_; rw [Int.one_mul] at h_; exact h_
               obtain ⟨y516, hy516⟩ : ∃ y_ : List Int, y_ = (y512.set ((ji15) : Int).toNat (Go.bits .or .u64 (rd y512 (ji15)) (ji20))) := ⟨_, rfl⟩
               replace H : (bitset_With.l0 kj7 y516 l1 (l1.length : Int) (wrap64 (x12_1 + 1))) = some r := by first | (rw [hy516]; with_reducible exact H) | (have H2_ := (Option.bind_some _ _).symm.trans H; rw [hy516]; with_reducible exact H2_) | (have H2_ := (Option.bind_some _ _).symm.trans H; with_reducible exact H2_) | with_reducible exact H | (rw [hy516]; exact H) | exact H
               have Ny516 := Aside0.mk hy516; clear hy516; have H' := Aside0.mk H; clear H; obtain ⟨Ao22, co22, eo22⟩ := Kd.R_slice HO_0.out; subst eo22; try go_wp2_with (first | (at_builtin; refine Kd.R_append_zeros (Kd.int .u64) (w0 := w) w.heap.size rfl (.tmp 30) (.tmp 31) 90 3 124 (.int .u64 0) 8 rfl Try.underlying90 Try.underlying3 info124 rfl (by decide) (by omega) (.slice Ao22 x0_1.length co22) x0_1 0 (ji12 : Int) (fun k_ => (w.heap.size ≤ k_)) rfl rfl rfl ?aF ?aO (of_decide_eq_true (by first | (with_reducible assumption) | assumption)) ?aB ?aS ?aL ?_; (case aB => exact (by repeat (first | (with_reducible first | exact HB.out | apply zq5 | apply zq4 | apply zq6) | exact HB.out))); (case aF => exact (fun k_ hk => (Nat.le_trans (below_size (by repeat (first | (with_reducible first | exact HB.out | apply zq5 | apply zq4 | apply zq6) | exact HB.out))) hk))); (case aO => exact (by (with_reducible repeat (first | apply Kd.R_alloc | apply Kd.R_drewN | apply Kd.R_drew)); exact HO_0.out)); (case aS => exact (below_size (by repeat (first | (with_reducible first | exact HB.out | apply zq5 | apply zq4 | apply zq6) | exact HB.out)))); (case aL => have := LMc14.out; omega); intro v513 w23 ho hb hg hat; rw [← Ny512.out] at ho; have n0_ := Aside0.mk (hb); have n1_ := Aside0.mk (ho); clear HB; clear HO_0; have HB := n0_; have HO514 := n1_; clear n0_ n1_; clear ho hb hg hat))
               have n0_ := Aside0.mk (Kd.R_drew HO514.out); have n1_ := Aside0.mk (below_drew1 HB.out); clear HO514; clear HB; have HO514 := n0_; have HB := n1_; clear n0_ n1_; obtain ⟨Ao25, co25, eo25⟩ := Kd.R_slice HO514.out; (first | subst eo25 | (injection eo25 with f1_ f2_ f3_; have f4_ := f1_.symm; have f5_ := f3_.symm; clear f1_ f2_ f3_; subst f4_; subst f5_))
               have p515 : 0 ≤ ((ji15) : Int) := of_decide_eq_true (by first | (with_reducible assumption) | assumption); have q515 : (ji15) < (y512.length : Int) := of_decide_eq_true (by first | (with_reducible assumption) | assumption); obtain ⟨ad515, e515, hx515_0⟩ := Kd.at_int (Kd.R_reads' HO514.out).2.2 (ji15) p515 q515; cases e515; replace p515 := eq_true p515; replace q515 := eq_true q515; have p21 : 0 ≤ ((ji15) : Int) := of_decide_eq_true (by first | (with_reducible assumption) | assumption); have q21 : ((ji15) : Int) < ((y512.length : Int) : Int) := of_decide_eq_true (by first | (with_reducible assumption) | assumption); obtain ⟨go21, co21, eo21, gb21, gl21, cl21, HG21⟩ := Kd.R_form HO514.out (by omega); (first | cases eo21 | (injection eo21 with ea_ en_ ec_; (first | subst ea_ | (injection ea_ with ea_; subst ea_)); subst ec_; clear en_))
               have GB21 := Aside0.mk gb21; have GG21 := Aside0.mk HG21; clear gb21 gl21 HG21; (first | simp only [add_plain] at hx515_0 | skip)
               obtain ⟨hx21_0, hf21_0⟩ := Kd.R_celln 0 HO514.out ((ji15) : Int) p21 q21; replace p21 := eq_true p21; replace q21 := eq_true q21; have HP26 := Kd.R_putn HO514.out ((ji15) : Int) (Go.bits .or .u64 (rd y512 (ji15)) (ji20)); rw [← Ny516.out] at HP26; have HQ26 := Aside0.mk HP26; clear HP26; refine start_ (n := 11) (S := fun w' => w'.cell? ⟨go21, ((ji15)).toNat, none⟩ = some (.int .u64 (rd y512 (ji15)))) (ds := [10]) #[false, false, false, false, false, false, false, false, false, false, false] (by kernel_rfl) rfl rfl (hx515_0) (fun hHeld => ?_); refine with_tabW bitset_With.tab9 bitset_With.bits9 (fun HT_ HW_ => ?_); generalize w23.drew = w24 at HO514 HB GG21 HQ26 hf21_0 hx21_0 hx515_0 hHeld ⊢; refine pure_ (i := 0) (N := some 33) (v := ?_) (a' := ?_) #[true, false, false, false, false, false, false, false, false, false, false] rfl rfl (any_of HT_.out (by kernel_rfl)) (fun _ _ _ h => h) (Or.inl ⟨by rfl, ?_⟩) ?_ ?_; rotate_left
               ·intro w'
                go_simp
                with_reducible rfl
               rotate_left
               ·simp only [Act.put, List.setIfInBounds_toArray, List.set_cons_zero, List.set_cons_succ, i64_w, i32_w]
                rfl
               refine pure_ (i := 1) (N := some 34) (v := ?_) (a' := ?_) #[true, true, false, false, false, false, false, false, false, false, false] rfl rfl (any_of HT_.out (by kernel_rfl)) (fun _ _ _ h => h) (Or.inl ⟨by rfl, ?_⟩) ?_ ?_; rotate_left
               ·intro w'
                go_simp
                with_reducible rfl
               rotate_left
               ·simp only [Act.put, List.setIfInBounds_toArray, List.set_cons_zero, List.set_cons_succ, i64_w, i32_w]
                rfl
               refine pure_ (i := 2) (N := some 35) (v := ?_) (a' := ?_) #[true, true, true, false, false, false, false, false, false, false, false] rfl rfl (any_of HT_.out (by kernel_rfl)) (fun _ _ _ h => h) (Or.inl ⟨by rfl, ?_⟩) ?_ ?_; rotate_left
               ·intro w'
                go_simp
                with_reducible rfl
               rotate_left
               ·simp only [Act.put, List.setIfInBounds_toArray, List.set_cons_zero, List.set_cons_succ, i64_w, i32_w]
                rfl
               refine pure_ (i := 3) (N := some 36) (v := ?_) (a' := ?_) #[true, true, true, true, false, false, false, false, false, false, false] rfl rfl (any_of HT_.out (by kernel_rfl)) (fun _ _ _ h => h) (Or.inl ⟨by rfl, ?_⟩) ?_ ?_; rotate_left
               ·intro w'
                go_simp
                with_reducible rfl
               rotate_left
               ·simp only [Act.put, List.setIfInBounds_toArray, List.set_cons_zero, List.set_cons_succ, i64_w, i32_w]
                rfl
               refine pure_ (i := 5) (N := some 38) (v := ?_) (a' := ?_) #[true, true, true, true, false, true, false, false, false, false, false] rfl rfl (any_of HT_.out (by kernel_rfl)) (fun _ _ _ h => h) (Or.inl ⟨by rfl, ?_⟩) ?_ ?_; rotate_left
               ·intro w'
                go_simp
                with_reducible rfl
               rotate_left
               ·simp only [Act.put, List.setIfInBounds_toArray, List.set_cons_zero, List.set_cons_succ, i64_w, i32_w]
                rfl
               refine pure_ (i := 6) (N := some 39) (v := ?_) (a' := ?_) #[true, true, true, true, false, true, true, false, false, false, false] rfl rfl (any_of HT_.out (by kernel_rfl)) (fun _ _ _ h => h) (Or.inl ⟨by rfl, ?_⟩) ?_ ?_; rotate_left
               ·intro w'
                go_simp
                with_reducible rfl
               rotate_left
               ·simp only [Act.put, List.setIfInBounds_toArray, List.set_cons_zero, List.set_cons_succ, i64_w, i32_w]
                rfl
               refine pure_ (i := 7) (N := some 40) (v := ?_) (a' := ?_) #[true, true, true, true, false, true, true, true, false, false, false] rfl rfl (any_of HT_.out (by kernel_rfl)) (fun _ _ _ h => h) (Or.inl ⟨by rfl, ?_⟩) ?_ ?_; rotate_left
               ·intro w'
                go_simp
                with_reducible rfl
               rotate_left
               ·simp only [Act.put, List.setIfInBounds_toArray, List.set_cons_zero, List.set_cons_succ, i64_w, i32_w]
                rfl
               refine take_ (i := 4) (N := some 37) (v := ?_) (a' := ?_) #[true, true, true, true, true, true, true, true, false, false, false] rfl rfl (take_ofW HT_.out HW_.out (by kernel_rfl)) (fun _ _ _ h => h) (Or.inl ⟨by rfl, ?_⟩) hHeld ?_ ?_; rotate_left
               ·intro w' s0
                go_simp
                with_reducible rfl
               rotate_left
               ·simp only [Act.put, List.setIfInBounds_toArray, List.set_cons_zero, List.set_cons_succ, i64_w, i32_w]
                rfl
               refine pure_ (i := 8) (N := some 41) (v := ?_) (a' := ?_) #[true, true, true, true, true, true, true, true, true, false, false] rfl rfl (any_of HT_.out (by kernel_rfl)) (fun _ _ _ h => h) (Or.inl ⟨by rfl, ?_⟩) ?_ ?_; rotate_left
               ·intro w'
                go_simp
                with_reducible rfl
               rotate_left
               ·simp only [Act.put, List.setIfInBounds_toArray, List.set_cons_zero, List.set_cons_succ, i64_w, i32_w]
                rfl
               refine pure_ (i := 9) (N := some 42) (v := ?_) (a' := ?_) #[true, true, true, true, true, true, true, true, true, true, false] rfl rfl (any_of HT_.out (by kernel_rfl)) (fun _ _ _ h => h) (Or.inl ⟨by rfl, ?_⟩) ?_ ?_; rotate_left
               ·intro w'
                go_simp
                with_reducible rfl
               rotate_left
               ·simp only [Act.put, List.setIfInBounds_toArray, List.set_cons_zero, List.set_cons_succ, i64_w, i32_w]
                rfl
               refine last_ (i := 10) (N := none) #[true, true, true, true, true, true, true, true, true, true, true] rfl rfl (one_of HT_.out (by kernel_rfl)) (by decide) (fun K hK => ?_); refine skip_ (w1 := ?_) (by rfl) rfl ?_ ?_; rotate_left
               ·go_simp
                rfl
               refine hK.out _ _ ?_; clear hK K; refine done_ (done_of HT_.out (by kernel_rfl)) ?_; try go_wp2
               go_roundg kj7
               case measure => have := HK1.out; have := HJ7.out; omega
               case rel => exact ⟨(y516), (wrap64 (x12_1 + 1)), (by first | rfl | (simp; done) | (simp [*]; done)), H', ⟨by have := HK1.out; have := HJ7.out; omega⟩, ⟨by (with_reducible repeat (first | apply Kd.R_alloc | apply Kd.R_drewN | apply Kd.R_drew)); exact HQ26.out⟩, ⟨by repeat (first | (with_reducible first | exact HB.out | apply zq5 | apply zq4 | apply zq6 | refine below_set ?_ GB21.out) | exact HB.out)⟩⟩
              ·rw [if_neg c19] at H
               exact absurd H (by simp)
             ·rw [if_neg c17] at H
              exact absurd H (by simp)
            ·rw [if_neg c16] at H
             exact absurd H (by simp)
           ·rw [if_neg c14] at H
            exact absurd H (by simp)
          ·rw [if_neg c13] at H
           exact absurd H (by simp)
         ·rw [if_neg c11] at H
          have c11b0 : decide (0 < (wrap64 ((wrap64 ((wrap64 (Int.tdiv (rd l1 x12_1) 64)) + 1)) - (x0_1.length : Int)))) = false := decide_eq_false c11; clear c11; obtain ⟨ji27, hji27⟩ : ∃ j_ : Int, (wrap64 (Int.tdiv (rd l1 x12_1) 64)) = j_ := ⟨_, rfl⟩
          replace H : (if 0 ≤ (ji27) then (if (ji27) < (x0_1.length : Int) then (if 0 ≤ (Int.tmod (rd l1 x12_1) 64) then (bitset_With.l0 kj7 (x0_1.set ((ji27) : Int).toNat (Go.bits .or .u64 (rd x0_1 (ji27)) (shl .u64 1 (Int.tmod (rd l1 x12_1) 64)))) l1 (l1.length : Int) (wrap64 (x12_1 + 1))) else (none)) else (none)) else (none)) = some r := by first | (rw [hji27] at H; exact H) | (simp only [hji27] at H ⊢; exact H)
          (try rw [hji27] at c11b0)
          have hji27w : (IntKind.i64.wrap (Int.tdiv (rd l1 x12_1) 64)) = ji27 := (i64_w _).trans hji27; (try rw [hji27] at hji12w)
          (try rw [hji27] at hji12)
          by_cases c28 : 0 ≤ (ji27)
          ·rw [if_pos c28] at H
           have c28b0 : decide (0 ≤ (ji27)) = true := decide_eq_true c28; clear c28; by_cases c29 : (ji27) < (x0_1.length : Int)
           ·rw [if_pos c29] at H
            have c29b0 : decide ((ji27) < (x0_1.length : Int)) = true := decide_eq_true c29; clear c29; obtain ⟨ji30, hji30⟩ : ∃ j_ : Int, (Int.tmod (rd l1 x12_1) 64) = j_ := ⟨_, rfl⟩
            replace H : (if 0 ≤ (ji30) then (bitset_With.l0 kj7 (x0_1.set ((ji27) : Int).toNat (Go.bits .or .u64 (rd x0_1 (ji27)) (shl .u64 1 (ji30)))) l1 (l1.length : Int) (wrap64 (x12_1 + 1))) else (none)) = some r := by first | (rw [hji30] at H; exact H) | (simp only [hji30] at H ⊢; exact H)
            by_cases c31 : 0 ≤ (ji30)
            ·rw [if_pos c31] at H
             have c31b0 := eq_true c31; have c31b1 : decide (0 ≤ (ji30)) = true := decide_eq_true c31; clear c31; obtain ⟨ji32, hji32⟩ : ∃ j_ : Int, (shl .u64 1 (ji30)) = j_ := ⟨_, rfl⟩
             replace H : (bitset_With.l0 kj7 (x0_1.set ((ji27) : Int).toNat (Go.bits .or .u64 (rd x0_1 (ji27)) (ji32))) l1 (l1.length : Int) (wrap64 (x12_1 + 1))) = some r := by first | (rw [hji32] at H; exact H) | (simp only [hji32] at H ⊢; exact H)
             have hji32_ : (IntKind.u64.wrap (1 * 2 ^ min (ji30).toNat 64)) = ji32 := hji32; have hji32z : (ji30) ≤ 64 → (IntKind.u64.wrap (1 * 2 ^ (ji30).toNat)) = ji32 := shl_small hji32; have hji32u : (IntKind.u64.wrap (2 ^ min (ji30).toNat 64)) = ji32 := by have h_ := hji32_; rw [Int.one_mul] at h_; exact h_
             have hji32v : (ji30) ≤ 64 → (IntKind.u64.wrap (2 ^ (ji30).toNat)) = ji32 := fun hle_ => by have h_ := hji32z hle_; rw [Int.one_mul] at h_; exact h_
             obtain ⟨y518, hy518⟩ : ∃ y_ : List Int, y_ = (x0_1.set ((ji27) : Int).toNat (Go.bits .or .u64 (rd x0_1 (ji27)) (ji32))) := ⟨_, rfl⟩
             replace H : (bitset_With.l0 kj7 y518 l1 (l1.length : Int) (wrap64 (x12_1 + 1))) = some r := by first | (rw [hy518]; with_reducible exact H) | (have H2_ := (Option.bind_some _ _).symm.trans H; rw [hy518]; with_reducible exact H2_) | (have H2_ := (Option.bind_some _ _).symm.trans H; with_reducible exact H2_) | with_reducible exact H | (rw [hy518]; exact H) | exact H
             have Ny518 := Aside0.mk hy518; clear hy518; have H' := Aside0.mk H; clear H; obtain ⟨Ao34, co34, eo34⟩ := Kd.R_slice HO_0.out; subst eo34; try go_wp2
             have n0_ := Aside0.mk (Kd.R_drew HO_0.out); have n1_ := Aside0.mk (below_drew1 HB.out); clear HO_0; clear HB; have HO_0 := n0_; have HB := n1_; clear n0_ n1_; have p517 : 0 ≤ ((ji27) : Int) := of_decide_eq_true (by first | (with_reducible assumption) | assumption); have q517 : (ji27) < (x0_1.length : Int) := of_decide_eq_true (by first | (with_reducible assumption) | assumption); obtain ⟨ad517, e517, hx517_0⟩ := Kd.at_int (Kd.R_reads' HO_0.out).2.2 (ji27) p517 q517; cases e517; replace p517 := eq_true p517; replace q517 := eq_true q517; have p33 : 0 ≤ ((ji27) : Int) := of_decide_eq_true (by first | (with_reducible assumption) | assumption); have q33 : ((ji27) : Int) < ((x0_1.length : Int) : Int) := of_decide_eq_true (by first | (with_reducible assumption) | assumption); obtain ⟨go33, co33, eo33, gb33, gl33, cl33, HG33⟩ := Kd.R_form HO_0.out (by omega); (first | cases eo33 | (injection eo33 with ea_ en_ ec_; (first | subst ea_ | (injection ea_ with ea_; subst ea_)); subst ec_; clear en_))
             have GB33 := Aside0.mk gb33; have GG33 := Aside0.mk HG33; clear gb33 gl33 HG33; (first | simp only [add_plain] at hx517_0 | skip)
             obtain ⟨hx33_0, hf33_0⟩ := Kd.R_celln 0 HO_0.out ((ji27) : Int) p33 q33; replace p33 := eq_true p33; replace q33 := eq_true q33; have HP36 := Kd.R_putn HO_0.out ((ji27) : Int) (Go.bits .or .u64 (rd x0_1 (ji27)) (ji32)); rw [← Ny518.out] at HP36; have HQ36 := Aside0.mk HP36; clear HP36; refine start_ (n := 11) (S := fun w' => w'.cell? ⟨go33, ((ji27)).toNat, none⟩ = some (.int .u64 (rd x0_1 (ji27)))) (ds := [10]) #[false, false, false, false, false, false, false, false, false, false, false] (by kernel_rfl) rfl rfl (hx517_0) (fun hHeld => ?_); refine with_tabW bitset_With.tab9 bitset_With.bits9 (fun HT_ HW_ => ?_); generalize wc.drew = w35 at HO_0 HB GG33 HQ36 hf33_0 hx33_0 hx517_0 hHeld ⊢; refine pure_ (i := 0) (N := some 33) (v := ?_) (a' := ?_) #[true, false, false, false, false, false, false, false, false, false, false] rfl rfl (any_of HT_.out (by kernel_rfl)) (fun _ _ _ h => h) (Or.inl ⟨by rfl, ?_⟩) ?_ ?_; rotate_left
             ·intro w'
              go_simp
              with_reducible rfl
             rotate_left
             ·simp only [Act.put, List.setIfInBounds_toArray, List.set_cons_zero, List.set_cons_succ, i64_w, i32_w]
              rfl
             refine pure_ (i := 1) (N := some 34) (v := ?_) (a' := ?_) #[true, true, false, false, false, false, false, false, false, false, false] rfl rfl (any_of HT_.out (by kernel_rfl)) (fun _ _ _ h => h) (Or.inl ⟨by rfl, ?_⟩) ?_ ?_; rotate_left
             ·intro w'
              go_simp
              with_reducible rfl
             rotate_left
             ·simp only [Act.put, List.setIfInBounds_toArray, List.set_cons_zero, List.set_cons_succ, i64_w, i32_w]
              rfl
             refine pure_ (i := 2) (N := some 35) (v := ?_) (a' := ?_) #[true, true, true, false, false, false, false, false, false, false, false] rfl rfl (any_of HT_.out (by kernel_rfl)) (fun _ _ _ h => h) (Or.inl ⟨by rfl, ?_⟩) ?_ ?_; rotate_left
             ·intro w'
              go_simp
              with_reducible rfl
             rotate_left
             ·simp only [Act.put, List.setIfInBounds_toArray, List.set_cons_zero, List.set_cons_succ, i64_w, i32_w]
              rfl
             refine pure_ (i := 3) (N := some 36) (v := ?_) (a' := ?_) #[true, true, true, true, false, false, false, false, false, false, false] rfl rfl (any_of HT_.out (by kernel_rfl)) (fun _ _ _ h => h) (Or.inl ⟨by rfl, ?_⟩) ?_ ?_; rotate_left
             ·intro w'
              go_simp
              with_reducible rfl
             rotate_left
             ·simp only [Act.put, List.setIfInBounds_toArray, List.set_cons_zero, List.set_cons_succ, i64_w, i32_w]
              rfl
             refine pure_ (i := 5) (N := some 38) (v := ?_) (a' := ?_) #[true, true, true, true, false, true, false, false, false, false, false] rfl rfl (any_of HT_.out (by kernel_rfl)) (fun _ _ _ h => h) (Or.inl ⟨by rfl, ?_⟩) ?_ ?_; rotate_left
             ·intro w'
              go_simp
              with_reducible rfl
             rotate_left
             ·simp only [Act.put, List.setIfInBounds_toArray, List.set_cons_zero, List.set_cons_succ, i64_w, i32_w]
              rfl
             refine pure_ (i := 6) (N := some 39) (v := ?_) (a' := ?_) #[true, true, true, true, false, true, true, false, false, false, false] rfl rfl (any_of HT_.out (by kernel_rfl)) (fun _ _ _ h => h) (Or.inl ⟨by rfl, ?_⟩) ?_ ?_; rotate_left
             ·intro w'
              go_simp
              with_reducible rfl
             rotate_left
             ·simp only [Act.put, List.setIfInBounds_toArray, List.set_cons_zero, List.set_cons_succ, i64_w, i32_w]
              rfl
             refine pure_ (i := 7) (N := some 40) (v := ?_) (a' := ?_) #[true, true, true, true, false, true, true, true, false, false, false] rfl rfl (any_of HT_.out (by kernel_rfl)) (fun _ _ _ h => h) (Or.inl ⟨by rfl, ?_⟩) ?_ ?_; rotate_left
             ·intro w'
              go_simp
              with_reducible rfl
             rotate_left
             ·simp only [Act.put, List.setIfInBounds_toArray, List.set_cons_zero, List.set_cons_succ, i64_w, i32_w]
              rfl
             refine take_ (i := 4) (N := some 37) (v := ?_) (a' := ?_) #[true, true, true, true, true, true, true, true, false, false, false] rfl rfl (take_ofW HT_.out HW_.out (by kernel_rfl)) (fun _ _ _ h => h) (Or.inl ⟨by rfl, ?_⟩) hHeld ?_ ?_; rotate_left
             ·intro w' s0
              go_simp
              with_reducible rfl
             rotate_left
             ·simp only [Act.put, List.setIfInBounds_toArray, List.set_cons_zero, List.set_cons_succ, i64_w, i32_w]
              rfl
             refine pure_ (i := 8) (N := some 41) (v := ?_) (a' := ?_) #[true, true, true, true, true, true, true, true, true, false, false] rfl rfl (any_of HT_.out (by kernel_rfl)) (fun _ _ _ h => h) (Or.inl ⟨by rfl, ?_⟩) ?_ ?_; rotate_left
             ·intro w'
              go_simp
              with_reducible rfl
             rotate_left
             ·simp only [Act.put, List.setIfInBounds_toArray, List.set_cons_zero, List.set_cons_succ, i64_w, i32_w]
              rfl
             refine pure_ (i := 9) (N := some 42) (v := ?_) (a' := ?_) #[true, true, true, true, true, true, true, true, true, true, false] rfl rfl (any_of HT_.out (by kernel_rfl)) (fun _ _ _ h => h) (Or.inl ⟨by rfl, ?_⟩) ?_ ?_; rotate_left
             ·intro w'
              go_simp
              with_reducible rfl
             rotate_left
             ·simp only [Act.put, List.setIfInBounds_toArray, List.set_cons_zero, List.set_cons_succ, i64_w, i32_w]
              rfl
             refine last_ (i := 10) (N := none) #[true, true, true, true, true, true, true, true, true, true, true] rfl rfl (one_of HT_.out (by kernel_rfl)) (by decide) (fun K hK => ?_); refine skip_ (w1 := ?_) (by rfl) rfl ?_ ?_; rotate_left
             ·go_simp
              rfl
             refine hK.out _ _ ?_; clear hK K; refine done_ (done_of HT_.out (by kernel_rfl)) ?_; try go_wp2
             go_roundg kj7
             case measure => have := HK1.out; have := HJ7.out; omega
             case rel => exact ⟨(y518), (wrap64 (x12_1 + 1)), (by first | rfl | (simp; done) | (simp [*]; done)), H', ⟨by have := HK1.out; have := HJ7.out; omega⟩, ⟨by (with_reducible repeat (first | apply Kd.R_alloc | apply Kd.R_drewN | apply Kd.R_drew)); exact HQ36.out⟩, ⟨by repeat (first | (with_reducible first | exact HB.out | apply zq5 | apply zq4 | apply zq6 | refine below_set ?_ GB33.out) | exact HB.out)⟩⟩
            ·rw [if_neg c31] at H
             exact absurd H (by simp)
           ·rw [if_neg c29] at H
            exact absurd H (by simp)
          ·rw [if_neg c28] at H
           exact absurd H (by simp)
     ·rw [if_neg c7] at H
      exact absurd H (by simp)
    ·rw [if_neg c6] at H
     exact absurd H (by simp)
   ·rw [if_neg c5] at H
    have c5b0 : decide (x12_1 < (l1.length : Int)) = false := decide_eq_false c5; clear c5; replace H := Option.bind_eq_some_iff.mp H; obtain ⟨t508, A370, H⟩ := H; replace H : (some t508) = some r := H; have A37 := Aside0.mk A370; clear A370; obtain rfl := Option.some.inj H; obtain ⟨Ao38, co38, eo38⟩ := Kd.R_slice HO_0.out; subst eo38; go_wp2_with (first | ((with_reducible refine gate_callee (f := 127) rfl ?_); refine goesL_ (some 45) rfl rfl Try.func127 (by kernel_rfl) rfl #[.slice Ao38 x0_1.length co38] rfl (by (try simp only [List.map_toArray, List.map_cons, List.map_nil]); first | done | rfl | (simp only [List.length_drop, List.length_take]; rfl)) ?_; (with_reducible refine (bitset_neat.calls k1 (fun k_ => some k_ = (.slice Ao38 x0_1.length co38 : Value).ownBlock) _ _ x0_1 t508 _ ?side1 A37.out).mono ?_); (case side1 => exact Kd.R_V (Kd.R_tight rfl (HO_0.out))); rintro e w39 ⟨v509, rfl, ho0, hb⟩; refine ⟨_, rfl, ?_⟩; have n0_ := Aside0.mk (Kd.R_below (by (with_reducible repeat (first | apply Kd.R_alloc | apply Kd.R_drewN | apply Kd.R_drew)); exact HO_0.out) hb); have n1_ := Aside0.mk (Kd.V_lower (Kd.V_mono (ok' := fun k_ => (w.heap.size ≤ k_)) ho0 (fun k_ hk_ => Or.elim hk_ (fun hs_ => ((HO_0.out).1 k_ hs_.symm)) (fun hn_ => (Nat.le_trans (below_size (by repeat (first | (with_reducible first | exact HB.out | apply zq5 | apply zq4 | apply zq6) | exact HB.out))) hn_)))) (below_size (by repeat (first | (with_reducible first | exact HB.out | apply zq5 | apply zq4 | apply zq6) | exact HB.out)))); have n2_ := Aside0.mk (below_step (by repeat (first | (with_reducible first | exact HB.out | apply zq5 | apply zq4 | apply zq6) | exact HB.out)) hb); clear HO_0; clear HB; have HO_0 := n0_; have HO510 := n1_; have HB := n2_; clear n0_ n1_ n2_; (try clear hb); (try clear hb2); (try clear hk); (try clear hi); (try clear ho0))); go_ret
    exact ⟨_, by first | rfl | (simp [errW_none, errW_some] <;> rfl) | (simp [*, errW_none, errW_some] <;> rfl), by (with_reducible repeat (first | apply Kd.V_alloc | apply Kd.V_drewN | apply Kd.V_drew)); exact HO510.out, by repeat (first | (with_reducible first | exact HB.out | apply zq5 | apply zq4 | apply zq6) | exact HB.out)⟩
def bitset_Of.f (k : Nat) (l0 : List Int) : Option (List Int) := (bitset_With.f k ([] : List Int) l0).bind fun t519 => (some t519)
set_option maxHeartbeats 8000000 in
set_option maxRecDepth 100000 in
theorem bitset_Of.calls (k : Nat) (A0 : Option Addr) (c0 : Nat) (l0 : List Int) (r : List Int) (w : World) (hr0 : Kd.C (Kd.int .i64) w A0 l0.length l0) (hc0 : l0.length ≤ c0) (h : bitset_Of.f k l0 = some r) :
  Calls Try.prog 110 #[.slice A0 l0.length c0] w fun e w' => ∃ v0_ : Value, e = .returned (v0_) ∧ Kd.V (Kd.int .u64) 124 w' w.heap.size (fun k_ => (w.heap.size ≤ k_)) v0_ r ∧ Below w.heap.size w w' := by
 have HR0 := Aside0.mk hr0; have HC0 := Aside0.mk hc0; clear hr0 hc0; have HB := Aside0.mk (Below.refl w.heap.size w); have H : ((bitset_With.f k ([] : List Int) l0).bind fun t519 => (some t519)) = some r := h; clear h; replace H := Option.bind_eq_some_iff.mp H; obtain ⟨t519, A20, H⟩ := H; replace H : (some t519) = some r := H; have A2 := Aside0.mk A20; clear A20; obtain rfl := Option.some.inj H; go_enter Try.func110, Try.ntmps110; go_wp2_with (first | ((with_reducible refine gate_callee (f := 111) rfl ?_); refine goesL_ (some 4) rfl rfl Try.func111 (by kernel_rfl) rfl #[.slice none 0 0, .slice A0 l0.length c0] rfl (by (try simp only [List.map_toArray, List.map_cons, List.map_nil]); first | done | rfl | (simp only [List.length_drop, List.length_take]; rfl)) ?_; (refine (bitset_With.calls k _ _ ([] : List Int) _ _ l0 t519 _ ?side1 ?side2 ?side3 ?side4 A2.out).mono ?_); (case side1 => exact Kd.C_nil _ _); (case side2 => exact Nat.le_refl _); (case side3 => repeat (first | exact HR0.out | (with_reducible refine Kd.C_alloc ?_ _) | (with_reducible refine Kd.C_drewN ?_ _) | (with_reducible refine Kd.C_drew ?_))); (case side4 => exact HC0.out); rintro e w3 ⟨v520, rfl, ho0, hb⟩; refine ⟨_, rfl, ?_⟩; have n0_ := Aside0.mk (Kd.V_lower (Kd.V_mono (ok' := fun k_ => (w.heap.size ≤ k_)) ho0 (fun k_ hk_ => (Nat.le_trans (below_size (by repeat (first | (with_reducible first | exact HB.out | apply zq5 | apply zq4 | apply zq6) | exact HB.out))) hk_))) (below_size (by repeat (first | (with_reducible first | exact HB.out | apply zq5 | apply zq4 | apply zq6) | exact HB.out)))); have n1_ := Aside0.mk (below_step (by repeat (first | (with_reducible first | exact HB.out | apply zq5 | apply zq4 | apply zq6) | exact HB.out)) hb); clear HB; have HO521 := n0_; have HB := n1_; clear n0_ n1_; (try clear hb); (try clear hb2); (try clear hk); (try clear hi); (try clear ho0))); go_ret
 exact ⟨_, by first | rfl | (simp [errW_none, errW_some] <;> rfl) | (simp [*, errW_none, errW_some] <;> rfl), by (with_reducible repeat (first | apply Kd.V_alloc | apply Kd.V_drewN | apply Kd.V_drew)); exact HO521.out, by repeat (first | (with_reducible first | exact HB.out | apply zq5 | apply zq4 | apply zq6) | exact HB.out)⟩
end Go.Proofs.Ytcknmcfomkbenaa.PF
