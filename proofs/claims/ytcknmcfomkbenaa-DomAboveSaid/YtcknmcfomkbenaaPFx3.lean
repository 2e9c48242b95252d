import Derived.Test.YtcknmcfomkbenaaPFx0
import Derived.Test.YtcknmcfomkbenaaPFx2
import Derived.Test.YtcknmcfomkbenaaHc
namespace Go.Proofs.Ytcknmcfomkbenaa.PF
open Go.RowKit Go.Proofs.YtcknmcfomkbenaaW.PrintWords Go.Proofs.YtcknmcfomkbenaaW.PrintLast Go.Proofs.YtcknmcfomkbenaaW.PrintMore
attribute [local go_sem] max2_int min2_int max_two min_two max_three min_three max_four min_four   -- for this text's walks alone
set_option linter.unusedVariables false
set_option linter.unusedSimpArgs false
def flow_Order.f (l0_0 : List Int) (l0_1 : List Int) (a0_2 : Int) (a0_3 : Int) (l0_4 : List (S50)) : Option (List Int) := if 0 < l0_4.length ∧ l0_4.length ≤ 35184372088832 ∧ (List.range l0_4.length).all (fun b => (flow_Next.f 1 l0_0 l0_1 a0_2 a0_3 l0_4 (b : Int)).isSome) = true then ((Go.Proofs.Ytcknmcfomkbenaa.D.walkF (fun b => (flow_Next.f 1 l0_0 l0_1 a0_2 a0_3 l0_4 b).getD []) (l0_4.length + 1) (List.replicate l0_4.length false, []) 0).bind fun s => if s.2.length ≤ 8796093022208 then some s.2.reverse else none) else none
set_option maxHeartbeats 8000000 in
set_option maxRecDepth 100000 in
theorem flow_Order.calls (A0_0 : Option Addr) (c0_0 : Nat) (l0_0 : List Int) (A0_1 : Option Addr) (c0_1 : Nat) (l0_1 : List Int) (a0_2 : Int) (a0_3 : Int) (A0_4 : Option Addr) (c0_4 : Nat) (l0_4 : List (S50)) (r : List Int) (w : World) (hr0_0 : Kd.C (Kd.int .i64) w A0_0 l0_0.length l0_0) (hc0_0 : l0_0.length ≤ c0_0) (hr0_1 : Kd.C (Kd.int .i64) w A0_1 l0_1.length l0_1) (hc0_1 : l0_1.length ≤ c0_1) (hr0_4 : Kd.C k50 w A0_4 l0_4.length l0_4) (hc0_4 : l0_4.length ≤ c0_4) (h : flow_Order.f l0_0 l0_1 a0_2 a0_3 l0_4 = some r) :
  Calls Try.prog 30 #[.agg #[.slice A0_0 l0_0.length c0_0, .slice A0_1 l0_1.length c0_1, .int .i64 a0_2, .int .i64 a0_3, .slice A0_4 l0_4.length c0_4]] w fun e w' => ∃ v0_ : Value, e = .returned (v0_) ∧ Kd.R (Kd.int .i64) 3 w' w.heap.size (fun _ => True) v0_ r ∧ Below w.heap.size w w' := by
 have h' : (if 0 < l0_4.length ∧ l0_4.length ≤ 35184372088832 ∧ (List.range l0_4.length).all (fun b => (flow_Next.f 1 l0_0 l0_1 a0_2 a0_3 l0_4 (b : Int)).isSome) = true then ((Go.Proofs.Ytcknmcfomkbenaa.D.walkF (fun b => (flow_Next.f 1 l0_0 l0_1 a0_2 a0_3 l0_4 b).getD []) (l0_4.length + 1) (List.replicate l0_4.length false, []) 0).bind fun s => if s.2.length ≤ 8796093022208 then some s.2.reverse else none) else none) = some r := h; clear h; by_cases hc : 0 < l0_4.length ∧ l0_4.length ≤ 35184372088832 ∧ (List.range l0_4.length).all (fun b => (flow_Next.f 1 l0_0 l0_1 a0_2 a0_3 l0_4 (b : Int)).isSome) = true
 ·rw [if_pos hc] at h'
  obtain ⟨h1, h2, h3⟩ := hc; obtain ⟨s, hs, h4⟩ := Option.bind_eq_some_iff.1 h'; by_cases hl : s.2.length ≤ 8796093022208
  ·rw [if_pos hl] at h4
   obtain rfl := Option.some.inj h4; refine H.order30 (w0 := w) (fun b => (flow_Next.f 1 l0_0 l0_1 a0_2 a0_3 l0_4 b).getD []) (fun w1 b hb => ?_) h1 h2 _ s hs hl; have hN : ∃ q, flow_Next.f 1 l0_0 l0_1 a0_2 a0_3 l0_4 b = some q := by
    by_cases hb0 : b < 0
    ·exact ⟨[], by simp [flow_Next.f, flow_Next.j0, hb0]⟩
    by_cases hb1 : b ≥ (l0_4.length : Int)
    ·exact ⟨[], by simp [flow_Next.f, flow_Next.j0, hb0, hb1]⟩
    have h5 := List.all_eq_true.1 h3 b.toNat (List.mem_range.2 (by omega)); rw [Int.toNat_of_nonneg (by omega)] at h5; exact Option.isSome_iff_exists.1 h5
   obtain ⟨q, hq⟩ := hN; have e : (flow_Next.f 1 l0_0 l0_1 a0_2 a0_3 l0_4 b).getD [] = q := by rw [hq]; rfl
   rw [e]; exact flow_Next.calls 1 A0_0 c0_0 l0_0 A0_1 c0_1 l0_1 a0_2 a0_3 A0_4 c0_4 l0_4 b q w1 (Kd.C_below hr0_0 hb) hc0_0 (Kd.C_below hr0_1 hb) hc0_1 (Kd.C_below hr0_4 hb) hc0_4 hq
  ·rw [if_neg hl] at h4
   cases h4
 ·rw [if_neg hc] at h'
  cases h'
end Go.Proofs.Ytcknmcfomkbenaa.PF
