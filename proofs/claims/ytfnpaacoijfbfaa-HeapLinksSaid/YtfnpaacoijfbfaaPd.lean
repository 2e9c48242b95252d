/- The laws' fixed fact, and what all of layer 9's laws ask first. -/
import Derived.Test.YtfnpaacoijfbfaaPb
namespace Go.Proofs.Ytfnpaacoijfbfaa.Pure
open Go.RowKit Go.Proofs.YtfnpaacoijfbfaaW.PrintWords Go.Proofs.YtfnpaacoijfbfaaW.PrintLast Go.Proofs.YtfnpaacoijfbfaaW.PrintMore Go.Proofs.Ytfnpaacoijfbfaa.PX Go.Proofs.Ytfnpaacoijfbfaa.E Go.Proofs.Ytfnpaacoijfbfaa.PC
def WF (l : List S47) : Prop := l.length * 48 ≤ 140737488351232 ∧ ∀ x ∈ l, (x.f0.length * 8 ≤ 140737488351232 ∧ ∀ y ∈ x.f0, (Lit.int .i64 y).wf = true) ∧ (x.f1.length * 8 ≤ 140737488351232 ∧ ∀ y ∈ x.f1, (Lit.int .i64 y).wf = true)
theorem alive : Ev (fun k => portolanlaw09_alive.f k) true := by
  simp only [portolanlaw09_alive.f]
  refine Ev.bind (alloc [] (by decide) 1 2) ?_
  have e : allocS [] 1 2 = ([⟨[0], [0, 0]⟩], 1, 0) := rfl
  rw [e]
  have l1 : heap_Load.f [⟨[0], [0, 0]⟩] 1 2 = some (0, 15) := by kernel_rfl
  have l2 : heap_Load.f [⟨[0], [0, 0]⟩] 0 0 = some (0, 14) := by kernel_rfl
  simp only [l1, l2, Option.bind_some]
  refine Ev.pos (by trivial) (Ev.pos (by trivial) (Ev.pos (by trivial) (Ev.pos (by trivial) ?_)))
  have hr : H.rightB [⟨[0], [0, 0]⟩] = true := by decide
  obtain ⟨r, h1, h2⟩ := reach [⟨[0], [0, 0]⟩] (by decide) hr [1, 5] (by decide)
  have h3 : IsReach [⟨[0], [0, 0]⟩] [1, 5] [1] := by
    refine ⟨by simp, by decide, fun x => ?_⟩
    rw [List.mem_singleton]
    constructor
    · rintro rfl
      exact ⟨1, rfl, by decide, by decide, Reached.root (by decide) (by decide) (by simp)⟩
    · rintro ⟨i, rfl, h0, h1, _⟩
      simp at h1
      omega
  obtain rfl := h2.eq h3
  refine Ev.bind h1 (Ev.bind (ints [1] [1] (by decide)) ?_)
  exact Ev.now _
theorem sizes {l : List S47} (w0 : WF l) : l.length < 4611686018427387904 ∧ ∀ o ∈ l, o.f0.length ≤ 17592186044416 ∧ o.f1.length ≤ 17592186044416 := by
  refine ⟨by have := w0.1; omega, fun o ho => ?_⟩
  have := w0.2 o ho
  omega
theorem small {l : List S47} (h : l.length + parts l ≤ 300) : l.length ≤ 300 ∧ ∀ o ∈ l, o.f0.length ≤ 300 ∧ o.f1.length ≤ 300 := by
  refine ⟨by omega, fun o ho => ?_⟩
  have := parts_mem ho
  omega
end Go.Proofs.Ytfnpaacoijfbfaa.Pure
