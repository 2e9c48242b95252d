import Derived.Test.YtcknmcfomkbenaaPFx0
import Derived.Test.YtcknmcfomkbenaaPFx2
import Derived.Test.YtcknmcfomkbenaaPFx3
import Derived.Test.YtcknmcfomkbenaaHh
namespace Go.Proofs.Ytcknmcfomkbenaa.PF
open Go.RowKit Go.Proofs.YtcknmcfomkbenaaW.PrintWords Go.Proofs.YtcknmcfomkbenaaW.PrintLast Go.Proofs.YtcknmcfomkbenaaW.PrintMore
attribute [local go_sem] max2_int min2_int max_two min_two max_three min_three max_four min_four   -- for this text's walks alone
set_option linter.unusedVariables false
set_option linter.unusedSimpArgs false
def dom_Kids.f (l0_0 : List Int) (l0_1 : List Int) (a0_2 : Int) (a0_3 : Int) (l0_4 : List (S50)) (a1 : Int) : Option (List Int) := ((flow_Order.f l0_0 l0_1 a0_2 a0_3 l0_4).bind fun o => if l0_4.length ≤ 64 ∧ (List.range l0_4.length).all (fun b => (flow_Prev.f (l0_4.length + 20) l0_0 l0_1 a0_2 a0_3 l0_4 (b : Int)).isSome) = true then Go.Proofs.Ytcknmcfomkbenaa.D.growF l0_4.length o (fun b => (flow_Prev.f (l0_4.length + 20) l0_0 l0_1 a0_2 a0_3 l0_4 b).getD []) 140 70 else none).map fun t => Go.Proofs.Ytcknmcfomkbenaa.D.kidsL t.1 a1 l0_4.length
set_option maxHeartbeats 8000000 in
set_option maxRecDepth 100000 in
theorem dom_Kids.calls (A0_0 : Option Addr) (c0_0 : Nat) (l0_0 : List Int) (A0_1 : Option Addr) (c0_1 : Nat) (l0_1 : List Int) (a0_2 : Int) (a0_3 : Int) (A0_4 : Option Addr) (c0_4 : Nat) (l0_4 : List (S50)) (a1 : Int) (r : List Int) (w : World) (hr0_0 : Kd.C (Kd.int .i64) w A0_0 l0_0.length l0_0) (hc0_0 : l0_0.length ≤ c0_0) (hr0_1 : Kd.C (Kd.int .i64) w A0_1 l0_1.length l0_1) (hc0_1 : l0_1.length ≤ c0_1) (hr0_4 : Kd.C k50 w A0_4 l0_4.length l0_4) (hc0_4 : l0_4.length ≤ c0_4) (h : dom_Kids.f l0_0 l0_1 a0_2 a0_3 l0_4 a1 = some r) :
  Calls Try.prog 52 #[.agg #[.slice A0_0 l0_0.length c0_0, .slice A0_1 l0_1.length c0_1, .int .i64 a0_2, .int .i64 a0_3, .slice A0_4 l0_4.length c0_4], .int .i64 a1] w fun e w' => ∃ v0_ : Value, e = .returned (v0_) ∧ Kd.R (Kd.int .i64) 3 w' w.heap.size (fun _ => True) v0_ r ∧ Below w.heap.size w w' := by
 have h' : (((flow_Order.f l0_0 l0_1 a0_2 a0_3 l0_4).bind fun o => if l0_4.length ≤ 64 ∧ (List.range l0_4.length).all (fun b => (flow_Prev.f (l0_4.length + 20) l0_0 l0_1 a0_2 a0_3 l0_4 (b : Int)).isSome) = true then Go.Proofs.Ytcknmcfomkbenaa.D.growF l0_4.length o (fun b => (flow_Prev.f (l0_4.length + 20) l0_0 l0_1 a0_2 a0_3 l0_4 b).getD []) 140 70 else none).map fun t => Go.Proofs.Ytcknmcfomkbenaa.D.kidsL t.1 a1 l0_4.length) = some r := h; clear h; obtain ⟨t, ht, h2⟩ := Option.map_eq_some_iff.1 h'; obtain ⟨o, ho, h3⟩ := Option.bind_eq_some_iff.1 ht; clear h' ht; by_cases hc : l0_4.length ≤ 64 ∧ (List.range l0_4.length).all (fun b => (flow_Prev.f (l0_4.length + 20) l0_0 l0_1 a0_2 a0_3 l0_4 (b : Int)).isSome) = true
 ·rw [if_pos hc] at h3
  obtain ⟨hn, hall⟩ := hc; have hG : H.Grows w A0_0 A0_1 A0_4 l0_0.length c0_0 l0_1.length c0_1 l0_4.length c0_4 a0_2 a0_3 t.1 t.2 := by
   intro w1 hb; refine H.grow_any o _ 140 70 t.1 t.2 (fun w2 hb2 => ?_) (fun w2 b hb2 b0 b1 => ?_) (fun ab pl a b m ga gp w1 la lp ca cp h => H.meet_any 140 ab pl a b m ga gp w1 la lp ca cp h) (by omega) h3
   ·have hb3 := hb.trans (hb2.mono hb.size)
    exact flow_Order.calls A0_0 c0_0 l0_0 A0_1 c0_1 l0_1 a0_2 a0_3 A0_4 c0_4 l0_4 o w2 (Kd.C_below hr0_0 hb3) hc0_0 (Kd.C_below hr0_1 hb3) hc0_1 (Kd.C_below hr0_4 hb3) hc0_4 ho
   ·have hb3 := hb.trans (hb2.mono hb.size)
    have h5 := List.all_eq_true.1 hall b.toNat (List.mem_range.2 (by omega)); rw [Int.toNat_of_nonneg (by omega)] at h5; obtain ⟨q, hq⟩ := Option.isSome_iff_exists.1 h5; have e : (flow_Prev.f (l0_4.length + 20) l0_0 l0_1 a0_2 a0_3 l0_4 b).getD [] = q := by rw [hq]; rfl
    refine (flow_Prev.calls (l0_4.length + 20) A0_0 c0_0 l0_0 A0_1 c0_1 l0_1 a0_2 a0_3 A0_4 c0_4 l0_4 b q w2 (Kd.C_below hr0_0 hb3) hc0_0 (Kd.C_below hr0_1 hb3) hc0_1 (Kd.C_below hr0_4 hb3) hc0_4 hq).mono ?_; rintro e4 w4 ⟨v4, e5, hR4, hB4⟩; rw [← e] at hR4; exact ⟨v4, e5, hR4, hB4⟩
  subst h2; exact H.Kids_any hG hn a1
 ·rw [if_neg hc] at h3
  cases h3
end Go.Proofs.Ytcknmcfomkbenaa.PF
