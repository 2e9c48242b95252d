import Derived.Test.YtcknmcfomkbenaaPFx0
import Derived.Test.YtcknmcfomkbenaaPFx3
import Derived.Test.YtcknmcfomkbenaaHe
namespace Go.Proofs.Ytcknmcfomkbenaa.PF
open Go.RowKit Go.Proofs.YtcknmcfomkbenaaW.PrintWords Go.Proofs.YtcknmcfomkbenaaW.PrintLast Go.Proofs.YtcknmcfomkbenaaW.PrintMore
attribute [local go_sem] max2_int min2_int max_two min_two max_three min_three max_four min_four   -- for this text's walks alone
set_option linter.unusedVariables false
set_option linter.unusedSimpArgs false
def flow_Reach.f (l0_0 : List Int) (l0_1 : List Int) (a0_2 : Int) (a0_3 : Int) (l0_4 : List (S50)) : Option (List Int) := (flow_Order.f l0_0 l0_1 a0_2 a0_3 l0_4).bind fun l => if l.length ≤ 8796093022208 then some (H.sortL l) else none
set_option maxHeartbeats 8000000 in
set_option maxRecDepth 100000 in
theorem flow_Reach.calls (A0_0 : Option Addr) (c0_0 : Nat) (l0_0 : List Int) (A0_1 : Option Addr) (c0_1 : Nat) (l0_1 : List Int) (a0_2 : Int) (a0_3 : Int) (A0_4 : Option Addr) (c0_4 : Nat) (l0_4 : List (S50)) (r : List Int) (w : World) (hr0_0 : Kd.C (Kd.int .i64) w A0_0 l0_0.length l0_0) (hc0_0 : l0_0.length ≤ c0_0) (hr0_1 : Kd.C (Kd.int .i64) w A0_1 l0_1.length l0_1) (hc0_1 : l0_1.length ≤ c0_1) (hr0_4 : Kd.C k50 w A0_4 l0_4.length l0_4) (hc0_4 : l0_4.length ≤ c0_4) (h : flow_Reach.f l0_0 l0_1 a0_2 a0_3 l0_4 = some r) :
  Calls Try.prog 28 #[.agg #[.slice A0_0 l0_0.length c0_0, .slice A0_1 l0_1.length c0_1, .int .i64 a0_2, .int .i64 a0_3, .slice A0_4 l0_4.length c0_4]] w fun e w' => ∃ v0_ : Value, e = .returned (v0_) ∧ Kd.R (Kd.int .i64) 3 w' w.heap.size (fun _ => True) v0_ r ∧ Below w.heap.size w w' := by
 have h' : ((flow_Order.f l0_0 l0_1 a0_2 a0_3 l0_4).bind fun l => if l.length ≤ 8796093022208 then some (H.sortL l) else none) = some r := h
 clear h
 obtain ⟨l, hl, h2⟩ := Option.bind_eq_some_iff.1 h'
 by_cases hc : l.length ≤ 8796093022208
 ·rw [if_pos hc] at h2
  obtain rfl := Option.some.inj h2
  refine H.reach_any l hc w (fun w1 hb => ?_)
  exact flow_Order.calls A0_0 c0_0 l0_0 A0_1 c0_1 l0_1 a0_2 a0_3 A0_4 c0_4 l0_4 l w1 (Kd.C_below hr0_0 hb) hc0_0 (Kd.C_below hr0_1 hb) hc0_1 (Kd.C_below hr0_4 hb) hc0_4 hl
 ·rw [if_neg hc] at h2
  cases h2
end Go.Proofs.Ytcknmcfomkbenaa.PF
