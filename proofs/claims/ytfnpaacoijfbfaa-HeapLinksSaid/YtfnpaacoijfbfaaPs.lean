/- The document's sameness answers true of a heap and itself: for heaps whose sizes are below 2^62. -/
import Derived.Test.YtfnpaacoijfbfaaPXx8
import Derived.Test.YtfnpaacoijfbfaaPa
namespace Go.Proofs.Ytfnpaacoijfbfaa.Pure
open Go.RowKit Go.Proofs.YtfnpaacoijfbfaaW.PrintWords Go.Proofs.YtfnpaacoijfbfaaW.PrintLast Go.Proofs.YtfnpaacoijfbfaaW.PrintMore Go.Proofs.Ytfnpaacoijfbfaa.PX Go.Proofs.Ytfnpaacoijfbfaa.E
theorem same_l0 (a : List S47) (hb : a.length < 4611686018427387904) (hs : ∀ o ∈ a, o.f0.length < 4611686018427387904 ∧ o.f1.length < 4611686018427387904) : ∀ n i, i + n = a.length → Ev (fun k => portolanref09_Same.l0 k (i : Int) a a) true
  | 0, i, h => by
    refine Ev.step (fun _ => rfl) ?_
    simp only [portolanref09_Same.l0]
    exact Ev.neg (by omega) (Ev.now _)
  | n + 1, i, h => by
    have h1 : i < a.length := by omega
    refine Ev.step (fun _ => rfl) ?_
    simp only [portolanref09_Same.l0]
    refine Ev.pos (by omega) (Ev.pos (by omega) (Ev.pos (by omega) ?_))
    rw [rdT_at h1, w1 (by omega)]
    have ho := hs _ (List.getElem_mem h1)
    have e1 := ints a[i].f0 a[i].f0 ho.1
    have e2 := ints a[i].f1 a[i].f1 ho.2
    rw [decide_eq_true rfl] at e1 e2
    exact Ev.bind e1 (Ev.pos rfl (Ev.bind e2 (Ev.pos rfl (same_l0 a hb hs n (i + 1) (by omega)))))
theorem same (a : List S47) (hb : a.length < 4611686018427387904) (hs : ∀ o ∈ a, o.f0.length < 4611686018427387904 ∧ o.f1.length < 4611686018427387904) : Ev (fun k => portolanref09_Same.f k a a) true := by
  simp only [portolanref09_Same.f]
  exact Ev.pos (by trivial) (same_l0 a hb hs a.length 0 (by omega))
end Go.Proofs.Ytfnpaacoijfbfaa.Pure
