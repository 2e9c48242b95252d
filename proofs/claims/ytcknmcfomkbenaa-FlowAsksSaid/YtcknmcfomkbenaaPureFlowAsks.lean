/- What comes next, and ahead, all edges and the number of instructions are the document's: the plain statement. -/
import Derived.Test.YtcknmcfomkbenaaPFx12
import Derived.Test.YtcknmcfomkbenaaPN
namespace Go.Proofs.Ytcknmcfomkbenaa.Pure
open Go.RowKit Go.Proofs.YtcknmcfomkbenaaW.PrintWords Go.Proofs.YtcknmcfomkbenaaW.PrintLast Go.Proofs.YtcknmcfomkbenaaW.PrintMore Go.Proofs.Ytcknmcfomkbenaa.PF Go.Proofs.Ytcknmcfomkbenaa.E
theorem flowAsks_l0 (p : List S30) (wp : WP p) (ok : OkProg p) (b : Int) : ∀ (d i : Nat), p.length - i ≤ d → Gives (fun k => portolanlaw05_FlowAsks.l0 k b (i : Int) p) (fun r => r = true) := by
  have hp := wp.n
  intro d
  induction d with
  | zero =>
    intro i hi
    refine Gives.step (fun _ => rfl) ?_
    simp only [portolanlaw05_FlowAsks.l0]
    exact Gives.neg (by omega) (Gives.now rfl)
  | succ d ih =>
    intro i hi
    by_cases hlt : i < p.length
    · have w := wp.w _ (List.getElem_mem hlt)
      have o := ok.fn _ (List.getElem_mem hlt)
      have h40 := o.hi
      refine Gives.step (fun _ => rfl) ?_
      simp only [portolanlaw05_FlowAsks.l0]
      refine Gives.pos (by omega) (Gives.pos (by omega) ?_)
      rw [rdS30_at hlt, w1 (by omega), ref_next_eq _ w]
      have hx := nxt_len p[i].f4 b
      have hl : (prevL p[i].f4 b).length ≤ p[i].f4.length := by
        unfold prevL
        split
        · exact ahead_len _ _ _
        · simp
      have he := edgesTo_len p[i].f4 p[i].f4.length
      refine Gives.bind (flow_next_gives _ w _) (fun a ha => Gives.some_bind ?_)
      subst ha
      refine Gives.bind (ints_gives _ _ (by omega)) (fun c hc => Gives.pos (hc.2 rfl) ?_)
      refine Gives.bind (flow_prev_gives _ w _) (fun a ha => Gives.bind (ref_prev_gives _ w _) (fun a2 ha2 => ?_))
      subst ha
      subst ha2
      refine Gives.bind (ints_gives _ _ (by omega)) (fun c hc => Gives.pos (hc.2 rfl) ?_)
      refine Gives.bind (flow_edges_gives _ w (by omega)) (fun a ha => Gives.bind (ref_edges_gives _ w (by omega)) (fun a2 ha2 => ?_))
      subst ha
      subst ha2
      refine Gives.bind (sameEdges_gives _ (by omega)) (fun c hc => Gives.pos hc ?_)
      refine Gives.bind (flow_size_gives _ w) (fun a ha => Gives.bind (ref_size_gives _ w) (fun a2 ha2 => ?_))
      subst ha
      subst ha2
      exact Gives.pos rfl (ih (i + 1) (by omega))
    · exact ih i (by omega)
theorem FlowAsks (p : List S30) (b : Int) (wp : WP p) (_ : (Lit.int .i64 b).wf = true) : ∃ k, portolanlaw05_FlowAsks.f k p b = some true := by
  have h : Gives (fun k => portolanlaw05_FlowAsks.f k p b) (fun r => r = true) := by
    unfold portolanlaw05_FlowAsks.f
    refine Gives.bind alive_gives (fun a ha => Gives.pos ha (Gives.bind (out_gives p wp) (fun c hc => ?_)))
    refine Gives.ite (fun _ => Gives.now rfl) (fun h => ?_)
    exact flowAsks_l0 p wp (hc (by simpa using h)) b _ 0 (Nat.le_refl _)
  obtain ⟨r, k, e, rfl⟩ := h.rounds
  exact ⟨k, e⟩
end Go.Proofs.Ytcknmcfomkbenaa.Pure
