/- The reference's walk, and its order. -/
import Derived.Test.YtcknmcfomkbenaaPFx16
import Derived.Test.YtcknmcfomkbenaaPFx17
import Derived.Test.YtcknmcfomkbenaaPT
namespace Go.Proofs.Ytcknmcfomkbenaa.Pure
open Go.RowKit Go.Proofs.YtcknmcfomkbenaaW.PrintWords Go.Proofs.YtcknmcfomkbenaaW.PrintLast Go.Proofs.YtcknmcfomkbenaaW.PrintMore Go.Proofs.Ytcknmcfomkbenaa.PF Go.Proofs.Ytcknmcfomkbenaa.E Go.Proofs.Ytcknmcfomkbenaa.D
set_option linter.unusedVariables false
theorem walk_l0 (f : S30) (w : W30 f) (k0 : Nat) (b : Int) (ih : ∀ (s : List Bool × List Int) (c : Int) (s' : List Bool × List Int), walkF (nxt f.f4) k0 s c = some s' → s'.2.length ≤ 17592186044416 → Gives (fun k => portolanref05_walk.f k f.f0 f.f1 f.f2 f.f3 f.f4 c s.1 s.2) (fun r => r = (s'.2, s'.1))) :
    ∀ (d j : Nat) (s t : List Bool × List Int), (nxt f.f4 b).length - j ≤ d → ((nxt f.f4 b).drop j).foldlM (walkF (nxt f.f4) k0) s = some t → t.2.length < 17592186044416 → Gives (fun k => portolanref05_walk.l0 k b s.1 s.2 (nxt f.f4 b) (j : Int) f.f0 f.f1 f.f2 f.f3 f.f4) (fun r => r = (t.2 ++ [b], t.1)) := by
  have hx := nxt_len f.f4 b
  intro d
  induction d with
  | zero =>
    intro j s t hj h hl
    rw [List.drop_of_length_le (by omega)] at h
    obtain rfl := Option.some.inj h
    refine Gives.step (fun _ => rfl) ?_
    simp only [portolanref05_walk.l0]
    exact Gives.neg (by omega) (Gives.pos hl (Gives.now rfl))
  | succ d ihd =>
    intro j s t hj h hl
    by_cases hlt : j < (nxt f.f4 b).length
    · rw [List.drop_eq_getElem_cons hlt, List.foldlM_cons] at h
      obtain ⟨s1, h1, h2⟩ := Option.bind_eq_some_iff.1 h
      obtain ⟨d2, g2⟩ := fold_gr (walkF_gr (nxt f.f4) k0) _ _ _ h2
      have hl1 : s1.2.length ≤ t.2.length := by rw [g2.app, List.length_append]; omega
      refine Gives.step (fun _ => rfl) ?_
      simp only [portolanref05_walk.l0]
      refine Gives.pos (by omega) (Gives.pos (by omega) ?_)
      rw [rd_at hlt, w1 (by omega)]
      refine Gives.bind (ih s _ s1 h1 (by omega)) (fun a ha => ?_)
      subst ha
      exact ihd (j + 1) s1 t (by omega) h2 hl
    · exact ihd j s t (by omega) h hl
theorem walk_gives (f : S30) (w : W30 f) : ∀ (k0 : Nat) (s : List Bool × List Int) (b : Int) (s' : List Bool × List Int), walkF (nxt f.f4) k0 s b = some s' → s'.2.length ≤ 17592186044416 → Gives (fun k => portolanref05_walk.f k f.f0 f.f1 f.f2 f.f3 f.f4 b s.1 s.2) (fun r => r = (s'.2, s'.1))
  | 0, _, _, _, h, _ => by cases h
  | k0 + 1, (m, l), b, s', h, hl => by
    have stop : ∀ x : Bool, x = true → s' = (m, l) → Gives (fun k => portolanref05_walk.j0 k b m l x f.f0 f.f1 f.f2 f.f3 f.f4) (fun r => r = (s'.2, s'.1)) := by
      intro x hx hs
      refine Gives.step (fun _ => rfl) ?_
      simp only [portolanref05_walk.j0]
      exact Gives.pos hx (Gives.now (by rw [hs]))
    unfold walkF at h
    refine Gives.step (fun _ => rfl) ?_
    simp only [portolanref05_walk.f]
    by_cases h0 : b < 0
    · rw [if_pos h0] at h
      exact Gives.pos h0 (stop true rfl (Option.some.inj h).symm)
    rw [if_neg h0] at h
    refine Gives.neg h0 ?_
    by_cases h1 : b ≥ (m.length : Int)
    · rw [if_pos h1] at h
      exact Gives.pos h1 (stop true rfl (Option.some.inj h).symm)
    rw [if_neg h1] at h
    refine Gives.neg h1 (Gives.pos (by omega) (Gives.pos (by omega) ?_))
    by_cases h2 : rdOf false m b = true
    · rw [if_pos h2] at h
      exact stop _ h2 (Option.some.inj h).symm
    rw [if_neg h2] at h
    obtain ⟨t, ht, rfl⟩ := Option.map_eq_some_iff.1 h
    refine Gives.step (fun _ => rfl) ?_
    simp only [portolanref05_walk.j0]
    refine Gives.neg h2 (Gives.pos (by omega) (Gives.pos (by omega) ?_))
    rw [ref_next_eq f w]
    refine Gives.some_bind ?_
    have hl2 : t.2.length < 17592186044416 := by
      simp only [List.length_append, List.length_cons, List.length_nil] at hl
      omega
    exact walk_l0 f w k0 b (fun s c s' => walk_gives f w k0 s c s') _ 0 (m.set b.toNat true, l) t (Nat.le_refl _) (by rw [List.drop_zero]; exact ht) hl2
theorem turned_l0 (x : List Int) (hx : x.length < 17592186044416) : ∀ (i : Nat), i ≤ x.length → Gives (fun k => portolanref05_Order.l0 k x (x.drop i).reverse (i : Int)) (fun r => r = x.reverse)
  | 0, _ => by
    refine Gives.step (fun _ => rfl) ?_
    simp only [portolanref05_Order.l0]
    exact Gives.neg (by omega) (Gives.now (by rw [List.drop_zero]))
  | i + 1, hi => by
    refine Gives.step (fun _ => rfl) ?_
    simp only [portolanref05_Order.l0]
    rw [show wrap64 (((i + 1 : Nat) : Int) - 1) = (i : Int) from by rw [wid (by omega) (by omega)]; omega]
    refine Gives.pos (by omega) (Gives.pos (by omega) (Gives.pos (by omega) (Gives.pos ?_ ?_)))
    · rw [List.length_reverse, List.length_drop]
      omega
    · rw [rd_at (by omega)]
      have := turned_l0 x hx i (by omega)
      rw [List.drop_eq_getElem_cons (by omega), List.reverse_cons] at this
      exact this
theorem ref_order_gives (f : S30) (w : W30 f) (h1 : 0 < f.f4.length) : Gives (fun k => portolanref05_Order.f k f.f0 f.f1 f.f2 f.f3 f.f4) (fun r => r = orderL f.f4) := by
  have h4 := w.n4
  obtain ⟨s, hs, g, hl⟩ := walk_all (nxt f.f4) f.f4.length
  have e : orderL f.f4 = s.2.reverse := by
    unfold orderL
    rw [hs]
    rfl
  unfold portolanref05_Order.f
  refine Gives.pos (by omega) (Gives.pos (by omega) ?_)
  rw [Int.toNat_natCast]
  refine Gives.bind (walk_gives f w _ (List.replicate f.f4.length false, []) 0 s hs (by omega)) (fun a ha => ?_)
  subst ha
  rw [e]
  have := turned_l0 s.2 (by omega) s.2.length (Nat.le_refl _)
  rw [List.drop_length, List.reverse_nil] at this
  exact this
end Go.Proofs.Ytcknmcfomkbenaa.Pure
