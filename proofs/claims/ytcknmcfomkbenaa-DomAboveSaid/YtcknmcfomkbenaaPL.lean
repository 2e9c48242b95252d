/- What is asked of the tree of any function of a program that may be; the fixed fact; what isn't asked about. -/
import Derived.Test.YtcknmcfomkbenaaPFx20
import Derived.Test.YtcknmcfomkbenaaPFx21
import Derived.Test.YtcknmcfomkbenaaPFx23
import Derived.Test.YtcknmcfomkbenaaPB
namespace Go.Proofs.Ytcknmcfomkbenaa.Pure
open Go.RowKit Go.Proofs.YtcknmcfomkbenaaW.PrintWords Go.Proofs.YtcknmcfomkbenaaW.PrintLast Go.Proofs.YtcknmcfomkbenaaW.PrintMore Go.Proofs.Ytcknmcfomkbenaa.PF Go.Proofs.Ytcknmcfomkbenaa.E Go.Proofs.Ytcknmcfomkbenaa.D
set_option linter.unusedVariables false
section
variable (f : S30) (w : W30 f) (h1 : 0 < f.f4.length) (hn : f.f4.length ≤ 64)
include w hn
theorem prevs_is : (fun b => (flow_Prev.f (f.f4.length + 20) f.f0 f.f1 f.f2 f.f3 f.f4 b).getD []) = prevL f.f4 := by
  funext b
  rw [prev_at f w (by omega) b]
  rfl
theorem prevs_all : (List.range f.f4.length).all (fun b => (flow_Prev.f (f.f4.length + 20) f.f0 f.f1 f.f2 f.f3 f.f4 (b : Int)).isSome) = true := by
  rw [List.all_eq_true]
  intro b _
  rw [prev_at f w (by omega)]
  rfl
include h1
theorem dominates_eq (a b : Int) : dom_Dominates.f f.f0 f.f1 f.f2 f.f3 f.f4 a b = (growF f.f4.length (orderL f.f4) (prevL f.f4) 140 70).bind fun t => domF f.f4.length t.1 t.2 70 a b := by
  unfold dom_Dominates.f
  rw [order_is f w h1 (by omega), Option.bind_some, if_pos ⟨hn, prevs_all f w hn⟩, prevs_is f w hn]
theorem above_eq : dom_Above.f f.f0 f.f1 f.f2 f.f3 f.f4 = (growF f.f4.length (orderL f.f4) (prevL f.f4) 140 70).map fun t => t.1 := by
  unfold dom_Above.f
  rw [order_is f w h1 (by omega), Option.bind_some, if_pos ⟨hn, prevs_all f w hn⟩, prevs_is f w hn]
theorem kids_eq (b : Int) : dom_Kids.f f.f0 f.f1 f.f2 f.f3 f.f4 b = (growF f.f4.length (orderL f.f4) (prevL f.f4) 140 70).map fun t => kidsL t.1 b f.f4.length := by
  unfold dom_Kids.f
  rw [order_is f w h1 (by omega), Option.bind_some, if_pos ⟨hn, prevs_all f w hn⟩, prevs_is f w hn]
theorem meet_eq (a b : Int) : dom_Meet.f f.f0 f.f1 f.f2 f.f3 f.f4 a b = (growF f.f4.length (orderL f.f4) (prevL f.f4) 140 70).bind fun t => meet2F f.f4.length t.1 t.2 (fun b => bitset_Of.f 70 [b]) (fun s b => bitset_With.f 70 s [b]) (fun s b => bitset_Has.f s b) 70 a b := by
  unfold dom_Meet.f
  rw [order_is f w h1 (by omega), Option.bind_some, if_pos ⟨hn, prevs_all f w hn⟩, prevs_is f w hn]
end
structure DA (f : S30) (ab dp : List Int) : Prop where
  tr : Tr (nxt f.f4) f.f4.length (orderL f.f4) ab dp
  lo : 0 < f.f4.length
  hi : f.f4.length ≤ 64
  dom : ∀ a b, ∃ r, dom_Dominates.f f.f0 f.f1 f.f2 f.f3 f.f4 a b = some r ∧ (r = true ↔ a ∈ orderL f.f4 ∧ b ∈ orderL f.f4 ∧ Up ab b a)
  abv : dom_Above.f f.f0 f.f1 f.f2 f.f3 f.f4 = some ab
  kid : ∀ b, dom_Kids.f f.f0 f.f1 f.f2 f.f3 f.f4 b = some (kidsL ab b f.f4.length)
  met : ∀ a b, ∃ m, dom_Meet.f f.f0 f.f1 f.f2 f.f3 f.f4 a b = some m ∧ (a ∈ orderL f.f4 ∧ b ∈ orderL f.f4 → m ∈ orderL f.f4 ∧ Up ab a m ∧ Up ab b m ∧ ∀ x, Up ab a x → Up ab b x → Up ab m x) ∧ (¬ (a ∈ orderL f.f4 ∧ b ∈ orderL f.f4) → m = -1)
theorem dom_all {p : List S30} (ok : OkProg p) {f : S30} (hf : f ∈ p) (w : W30 f) : ∃ ab dp, DA f ab dp := by
  have o := ok.fn f hf
  have h1 := o.lo
  have h2 := o.hi
  obtain ⟨od, hol⟩ := order_ord f.f4 (by omega)
  obtain ⟨ab, dp, hg, t⟩ := grown (prev := prevL f.f4) od hol (by omega) (fun a b h => okp_tgt ok hf h) (fun b a => by
    rw [mem_prevL]
    exact ⟨fun h => h.2, fun h => ⟨by have := okp_tgt ok hf h.2.2; omega, h⟩⟩)
  refine ⟨ab, dp, t, by omega, by omega, fun a b => ?_, ?_, fun b => ?_, fun a b => ?_⟩
  · rw [dominates_eq f w (by omega) (by omega), hg, Option.bind_some]
    exact t.dom (by omega) a b
  · rw [above_eq f w (by omega) (by omega), hg]
    rfl
  · rw [kids_eq f w (by omega) (by omega), hg]
    rfl
  · rw [meet_eq f w (by omega) (by omega), hg, Option.bind_some]
    exact t.meet (by omega) a b
theorem alive6g_gives : Gives (fun k => portolanlaw06_alive.g k) (fun r => r = true) := by
  unfold portolanlaw06_alive.g
  simp only [Option.bind_some]
  have hg : growF aliveF.f4.length (orderL aliveF.f4) (prevL aliveF.f4) 140 70 = some ([-1, 0, 0, 0], [0, 1, 1, 1]) := by decide +kernel
  have e1 := above_eq aliveF aliveF_ok (by decide) (by decide)
  have e2 := fun a b => dominates_eq aliveF aliveF_ok (by decide) (by decide) a b
  have e3 := fun a b => meet_eq aliveF aliveF_ok (by decide) (by decide) a b
  rw [hg] at e1
  simp only [hg] at e2 e3
  simp only [aliveF] at e1 e2 e3
  rw [e1]
  refine Gives.some_bind (Gives.bind (ints_gives _ _ (by decide)) (fun a ha => Gives.pos (ha.2 (by decide)) ?_))
  rw [e2, e2, e3]
  refine ⟨true, ⟨0, fun k _ => ?_⟩, rfl⟩
  dsimp only
  decide +kernel
theorem alive6_gives : Gives (fun k => portolanlaw06_alive.f k) (fun r => r = true) := by
  unfold portolanlaw06_alive.f
  exact Gives.bind alive6g_gives (fun a ha => Gives.pos ha (Gives.now rfl))
theorem out6_l0 (p : List S30) (wp : WP p) : ∀ (d i : Nat) (x : Int), p.length - i ≤ d → Gives (fun k => portolanlaw06_out.l0 k x (i : Int) p) (fun r => r = false → OkProg p) := by
  have hp := wp.n
  have fin : ∀ x : Int, Gives (fun k => if x > 20 then (some true) else ((portolanref03_Great.f k p).bind fun t559 => (if t559 = true then (some true) else ((portolanref04_Check.f k p).bind fun t560 => (some (t560 != 0)))))) (fun r => r = false → OkProg p) := by
    intro x
    refine Gives.ite (fun _ => Gives.now (by simp)) (fun _ => ?_)
    exact Gives.bind (great_gives p wp) (fun a _ => Gives.ite (fun _ => Gives.now (by simp)) (fun _ => Gives.bind (check_gives p wp) (fun c hc => Gives.now (fun h => hc (by simpa using h)))))
  intro d
  induction d with
  | zero =>
    intro i x hi
    refine Gives.step (fun _ => rfl) ?_
    simp only [portolanlaw06_out.l0]
    exact Gives.neg (by omega) (fin x)
  | succ d ih =>
    intro i x hi
    by_cases hlt : i < p.length
    · refine Gives.step (fun _ => rfl) ?_
      simp only [portolanlaw06_out.l0]
      refine Gives.pos (by omega) (Gives.ite (fun _ => Gives.pos (by omega) ?_) (fun _ => fin x))
      rw [w1 (by omega)]
      exact ih (i + 1) _ (by omega)
    · exact ih i x (by omega)
theorem out6_gives (p : List S30) (wp : WP p) : Gives (fun k => portolanlaw06_out.f k p) (fun r => r = false → OkProg p) := by
  unfold portolanlaw06_out.f
  exact out6_l0 p wp _ 0 0 (Nat.le_refl _)
end Go.Proofs.Ytcknmcfomkbenaa.Pure
