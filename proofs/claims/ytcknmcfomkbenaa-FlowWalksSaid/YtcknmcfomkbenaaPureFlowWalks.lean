/- Which blocks are reached, and the order of a walk, are the document's: the plain statement. -/
import Derived.Test.YtcknmcfomkbenaaPFx14
import Derived.Test.YtcknmcfomkbenaaPFx16
import Derived.Test.YtcknmcfomkbenaaPFx17
import Derived.Test.YtcknmcfomkbenaaPU
import Derived.Test.YtcknmcfomkbenaaPV
namespace Go.Proofs.Ytcknmcfomkbenaa.Pure
open Go.RowKit Go.Proofs.YtcknmcfomkbenaaW.PrintWords Go.Proofs.YtcknmcfomkbenaaW.PrintLast Go.Proofs.YtcknmcfomkbenaaW.PrintMore Go.Proofs.Ytcknmcfomkbenaa.PF Go.Proofs.Ytcknmcfomkbenaa.E Go.Proofs.Ytcknmcfomkbenaa.D
set_option linter.unusedVariables false
def marked (m : List Bool) (i : Nat) : List Int := ((List.range i).filter fun (j : Nat) => rdOf false m (j : Int)).map fun (j : Nat) => (j : Int)
theorem marked_len (m : List Bool) (i : Nat) : (marked m i).length ≤ i := by
  unfold marked
  rw [List.length_map]
  exact Nat.le_trans (List.length_filter_le _ _) (by simp)
theorem marked_yes {m : List Bool} {i : Nat} (h : rdOf false m (i : Int) = true) : marked m (i + 1) = marked m i ++ [(i : Int)] := by
  unfold marked
  rw [List.range_succ, List.filter_append, List.map_append]
  simp [List.filter, h]
theorem marked_no {m : List Bool} {i : Nat} (h : ¬ rdOf false m (i : Int) = true) : marked m (i + 1) = marked m i := by
  unfold marked
  rw [List.range_succ, List.filter_append, List.map_append]
  simp [List.filter, h]
theorem mem_marked {m : List Bool} {x : Int} : x ∈ marked m m.length ↔ M m x := by
  unfold marked
  simp only [List.mem_map, List.mem_filter, List.mem_range]
  constructor
  · rintro ⟨j, ⟨h1, h2⟩, rfl⟩
    exact (M_rd (by omega)).1 h2
  · intro h
    have h1 := M_lt h
    refine ⟨x.toNat, ⟨by have := h.1; omega, ?_⟩, Int.toNat_of_nonneg h.1⟩
    rw [Int.toNat_of_nonneg h.1]
    exact (M_rd h.1).2 h
theorem marked_rising (m : List Bool) (i : Nat) : (marked m i).Pairwise (· < ·) := by
  unfold marked
  rw [List.pairwise_map]
  refine (List.Pairwise.filter _ List.pairwise_lt_range).imp ?_
  intro a b h
  omega
theorem ref_reach_l0 (m : List Bool) (hm : m.length ≤ 17592186043904) : ∀ (d i : Nat), m.length - i ≤ d → i ≤ m.length → Gives (fun k => portolanref05_Reach.l0 k m (marked m i) (i : Int)) (fun r => r = marked m m.length) := by
  intro d
  induction d with
  | zero =>
    intro i hi hi2
    refine Gives.step (fun _ => rfl) ?_
    simp only [portolanref05_Reach.l0]
    exact Gives.neg (by omega) (Gives.now (by rw [show i = m.length by omega]))
  | succ d ih =>
    intro i hi hi2
    by_cases hlt : i < m.length
    · have hl := marked_len m i
      refine Gives.step (fun _ => rfl) ?_
      simp only [portolanref05_Reach.l0]
      refine Gives.pos (by omega) (Gives.pos (by omega) (Gives.ite (fun h => Gives.pos (by omega) ?_) (fun h => ?_)))
      · rw [w1 (by omega), ← marked_yes h]
        exact ih (i + 1) (by omega) (by omega)
      · rw [w1 (by omega), ← marked_no h]
        exact ih (i + 1) (by omega) (by omega)
    · exact ih i (by omega) hi2
theorem ref_reach_gives (f : S30) (w : W30 f) (h1 : 0 < f.f4.length) : Gives (fun k => portolanref05_Reach.f k f.f0 f.f1 f.f2 f.f3 f.f4) (fun r => r = H.sortL (orderL f.f4)) := by
  have h4 := w.n4
  unfold portolanref05_Reach.f
  refine Gives.bind (within_gives' f w 0 (-1) (by omega)) (fun m hm => ?_)
  subst hm
  have hl := withinL_len (nxt f.f4) f.f4.length 0 (-1)
  refine (ref_reach_l0 _ (by omega) _ 0 (Nat.le_refl _) (Nat.zero_le _)).mono (fun r hr => ?_)
  rw [hr]
  have o := (order_ord f.f4 h1).1
  refine PC.rising_eq (marked_rising _ _) (sortL_rising o.nod) (fun x => ?_)
  rw [mem_marked, sortL_mem, o.mem, within_is_path (by omega) (by omega)]
theorem flowWalks_l0 (p : List S30) (wp : WP p) (ok : OkProg p) : ∀ (d i : Nat), p.length - i ≤ d → Gives (fun k => portolanlaw05_FlowWalks.l0 k (i : Int) p) (fun r => r = true) := by
  have hp := wp.n
  intro d
  induction d with
  | zero =>
    intro i hi
    refine Gives.step (fun _ => rfl) ?_
    simp only [portolanlaw05_FlowWalks.l0]
    exact Gives.neg (by omega) (Gives.now rfl)
  | succ d ih =>
    intro i hi
    by_cases hlt : i < p.length
    · have w := wp.w _ (List.getElem_mem hlt)
      have o := ok.fn _ (List.getElem_mem hlt)
      have h40 := o.hi
      have h1 := o.lo
      have hl := (order_ord p[i].f4 (by omega)).2
      refine Gives.step (fun _ => rfl) ?_
      simp only [portolanlaw05_FlowWalks.l0]
      refine Gives.pos (by omega) (Gives.pos (by omega) ?_)
      rw [rdS30_at hlt, w1 (by omega), reach_is _ w (by omega) (by omega)]
      refine Gives.some_bind (Gives.bind (ref_reach_gives _ w (by omega)) (fun a ha => ?_))
      subst ha
      have hs : (H.sortL (orderL p[i].f4)).length = (orderL p[i].f4).length := List.length_mergeSort _
      refine Gives.bind (ints_gives _ _ (by omega)) (fun c hc => Gives.pos (hc.2 rfl) ?_)
      rw [order_is _ w (by omega) (by omega)]
      refine Gives.some_bind (Gives.bind (ref_order_gives _ w (by omega)) (fun a ha => ?_))
      subst ha
      exact Gives.bind (ints_gives _ _ (by omega)) (fun c hc => Gives.pos (hc.2 rfl) (ih (i + 1) (by omega)))
    · exact ih i (by omega)
theorem FlowWalks (p : List S30) (wp : WP p) : ∃ k, portolanlaw05_FlowWalks.f k p = some true := by
  have h : Gives (fun k => portolanlaw05_FlowWalks.f k p) (fun r => r = true) := by
    unfold portolanlaw05_FlowWalks.f
    refine Gives.bind alive_gives (fun a ha => Gives.pos ha (Gives.bind (out_gives p wp) (fun c hc => ?_)))
    refine Gives.ite (fun _ => Gives.now rfl) (fun h => ?_)
    exact flowWalks_l0 p wp (hc (by simpa using h)) _ 0 (Nat.le_refl _)
  obtain ⟨r, k, e, rfl⟩ := h.rounds
  exact ⟨k, e⟩
end Go.Proofs.Ytcknmcfomkbenaa.Pure
