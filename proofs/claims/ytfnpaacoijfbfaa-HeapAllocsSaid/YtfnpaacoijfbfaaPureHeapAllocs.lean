/- HeapAllocs in plain Lean: both sides answer alike. -/
import Derived.Test.YtfnpaacoijfbfaaPd
namespace Go.Proofs.Ytfnpaacoijfbfaa.Pure
open Go.RowKit Go.Proofs.YtfnpaacoijfbfaaW.PrintWords Go.Proofs.YtfnpaacoijfbfaaW.PrintLast Go.Proofs.YtfnpaacoijfbfaaW.PrintMore Go.Proofs.Ytfnpaacoijfbfaa.PX Go.Proofs.Ytfnpaacoijfbfaa.E Go.Proofs.Ytfnpaacoijfbfaa.PC
theorem reach_both (l : List S47) (hl : l.length ≤ 301) (hs : ∀ o ∈ l, o.f0.length < 4611686018427387904) (roots : List Int) (h50 : roots.length ≤ 50) : ∃ r, Ev (fun k => heap_Reach.f k l roots) r ∧ Ev (fun k => portolanref09_Reach.f k l roots) r ∧ r.length ≤ 302 := by
  cases hr : H.rightB l with
  | false =>
    refine ⟨[], reach_wrong l hr roots, ?_, by decide⟩
    simp only [portolanref09_Reach.f]
    refine Ev.bind (right l (by omega) hs) (Ev.neg (by rw [hr]; decide) (Ev.now _))
  | true =>
    obtain ⟨r, h1, h2⟩ := reach l hl hr roots h50
    obtain ⟨r', h3, h4⟩ := reach_ref l hl hs hr roots h50
    obtain rfl := h2.eq h4
    have := h2.short
    exact ⟨r, h1, h3, by omega⟩
theorem same_S (l : List S47) (hl : l.length + parts l ≤ 300) (a b : Int) : Ev (fun k => portolanref09_Same.f k (allocS l a b).1 (allocS l a b).1) true := by
  have hs := small hl
  unfold allocS
  split
  · rename_i h
    refine same _ (by simp [grown]; omega) (fun o ho => ?_)
    rcases List.mem_append.1 ho with ho | ho
    · have := hs.2 o ho; omega
    · simp only [List.mem_singleton] at ho
      subst ho
      simp only [allocB, Bool.and_eq_true, decide_eq_true_eq] at h
      simp only [List.length_replicate]
      omega
  · exact same _ (by simp; omega) (fun o ho => by have := hs.2 o ho; omega)
theorem HeapAllocs (l0 : List S47) (a0 a1 : Int) (l2 : List Int) (w0 : l0.length * 48 ≤ 140737488351232 ∧ ∀ x ∈ l0, (x.f0.length * 8 ≤ 140737488351232 ∧ ∀ y ∈ x.f0, (Lit.int .i64 y).wf = true) ∧ (x.f1.length * 8 ≤ 140737488351232 ∧ ∀ y ∈ x.f1, (Lit.int .i64 y).wf = true))
    (_w1 : (Lit.int .i64 a0).wf = true ∧ (Lit.int .i64 a1).wf = true) (_w2 : l2.length * 8 ≤ 140737488351232 ∧ ∀ y ∈ l2, (Lit.int .i64 y).wf = true) : ∃ k, portolanlaw09_HeapAllocs.f k l0 a0 a1 l2 = some true := by
  refine Ev.rounds ?_
  have hz := sizes w0
  obtain ⟨b, hg, hg2⟩ := great l0 hz.1 hz.2
  simp only [portolanlaw09_HeapAllocs.f]
  refine Ev.bind alive (Ev.pos rfl (Ev.bind hg ?_))
  have skip : Ev (fun k => portolanlaw09_HeapAllocs.j0 k l2 true l0 a0 a1) true := by
    refine Ev.step (fun _ => rfl) ?_
    simp only [portolanlaw09_HeapAllocs.j0]
    exact Ev.pos (by trivial) (Ev.now _)
  cases b with
  | true => exact Ev.pos rfl skip
  | false =>
    refine Ev.neg (by decide) ?_
    have hsm := hg2 rfl
    have hs := small hsm
    by_cases h50 : (l2.length : Int) > 50
    · rw [decide_eq_true h50]; exact skip
    · rw [decide_eq_false h50]
      refine Ev.step (fun _ => rfl) ?_
      simp only [portolanlaw09_HeapAllocs.j0]
      obtain ⟨r, r1, r2, r3⟩ := reach_both l0 (by omega) (fun o ho => by have := hs.2 o ho; omega) l2 (by omega)
      refine Ev.neg (by decide) (Ev.bind (copy l0 hs.1 hs.2) (Ev.bind (alloc l0 hs.1 a0 a1) (Ev.bind (alloc_ref l0 hs.1 hs.2 a0 a1) (Ev.bind (same_S l0 hsm a0 a1) (Ev.pos rfl (Ev.pos rfl (Ev.pos rfl ?_)))))))
      simp only [heap_Right.f, Option.bind_some]
      refine Ev.bind (right l0 (by omega) (fun o ho => by have := hs.2 o ho; omega)) (Ev.pos (by simp) (Ev.bind r1 (Ev.bind r2 (Ev.bind (ints r r (by omega)) (Ev.pos (by simp) (Ev.bind (same l0 (by omega) (fun o ho => by have := hs.2 o ho; omega)) (Ev.now _)))))))
end Go.Proofs.Ytfnpaacoijfbfaa.Pure
