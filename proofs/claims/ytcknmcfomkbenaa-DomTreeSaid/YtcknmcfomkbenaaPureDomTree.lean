/- What dominates makes a tree below 0: the plain statement. -/
import Derived.Test.YtcknmcfomkbenaaPFx22
import Derived.Test.YtcknmcfomkbenaaPL
namespace Go.Proofs.Ytcknmcfomkbenaa.Pure
open Go.RowKit Go.Proofs.YtcknmcfomkbenaaW.PrintWords Go.Proofs.YtcknmcfomkbenaaW.PrintLast Go.Proofs.YtcknmcfomkbenaaW.PrintMore Go.Proofs.Ytcknmcfomkbenaa.PF Go.Proofs.Ytcknmcfomkbenaa.E Go.Proofs.Ytcknmcfomkbenaa.D
set_option linter.unusedVariables false
theorem tmod_at {a : Int} {n : Nat} (a0 : 0 ≤ a) (a1 : a < 256) (hn : 0 < n) : 0 ≤ Int.tmod (wrap64 a) (n : Int) ∧ Int.tmod (wrap64 a) (n : Int) < (n : Int) := by
  rw [wid (by omega) (by omega), Int.tmod_eq_emod_of_nonneg a0]
  exact ⟨Int.emod_nonneg _ (by omega), Int.emod_lt_of_pos _ (by omega)⟩
section
variable (p : List S30) (f : S30) {ab dp : List Int} (da : DA f ab dp) (i : Nat) (hi : i < 4611686018427387904) (u v z : Int) (H : Gives (fun k => portolanlaw06_DomTree.l0 k ((i + 1 : Nat) : Int) p u v z) (fun r => r = true))
include da hi H
theorem domTree_l1 {c : Int} (c0 : 0 ≤ c) (c1 : c < (f.f4.length : Int)) : ∀ (d : Nat) (x : Int) (s : Nat), rd dp x < (d : Int) → (c ∈ orderL f.f4 ∧ x ∈ orderL f.f4 ∧ Up ab c x ∧ (s : Int) + rd dp x = rd dp c) ∨ (c ∉ orderL f.f4 ∧ x = c ∧ s = 0) →
    Gives (fun k => portolanlaw06_DomTree.l1 k (i : Int) (f.f4.length : Int) c ab x (s : Int) p u v z f.f0 f.f1 f.f2 f.f3 f.f4) (fun r => r = true) := by
  have t := da.tr
  have hi2 := da.hi
  have stop : ∀ (x : Int), (c ∈ orderL f.f4 → x = 0) → Gives (fun k => (dom_Dominates.f f.f0 f.f1 f.f2 f.f3 f.f4 c c).bind fun t582 => (if t582 = true then (if x = 0 then (portolanlaw06_DomTree.l0 k (wrap64 ((i : Int) + 1)) p u v z) else (some false)) else (portolanlaw06_DomTree.l0 k (wrap64 ((i : Int) + 1)) p u v z))) (fun r => r = true) := by
    intro x hx
    obtain ⟨r, e, hr⟩ := da.dom c c
    rw [e, w1 hi]
    exact Gives.some_bind (Gives.ite (fun h => Gives.pos (hx (hr.1 h).1) H) (fun _ => H))
  intro d
  induction d with
  | zero =>
    intro x s hd hs
    rcases hs with ⟨_, hx, _⟩ | ⟨hc, rfl, rfl⟩
    · have := (t.dn x hx).1; omega
    · refine Gives.step (fun _ => rfl) ?_
      simp only [portolanlaw06_DomTree.l1]
      have := t.ao x c0 c1 hc
      refine Gives.pos c0 (Gives.pos (by rw [t.la]; exact c1) (Gives.neg (by omega) (stop x (fun h => absurd h hc))))
  | succ d ih =>
    intro x s hd hs
    rcases hs with ⟨hc, hx, hu, hsum⟩ | ⟨hc, rfl, rfl⟩
    · have hxr := t.rng x hx
      have hcd := t.dn c hc
      refine Gives.step (fun _ => rfl) ?_
      simp only [portolanlaw06_DomTree.l1]
      refine Gives.pos hxr.1 (Gives.pos (by rw [t.la]; exact hxr.2) (Gives.ite (fun h => ?_) (fun h => stop x (fun _ => ?_))))
      · have hx0 := t.ne h
        have hy := t.ai x hx hx0
        have hyr := t.rng _ hy
        have hyd := t.ds x hx hx0
        have hy0 := (t.dn _ hy).1
        refine Gives.neg (by omega) (Gives.neg (by rw [w1 (by omega)]; omega) ?_)
        obtain ⟨r, e, hr⟩ := da.dom (rd ab x) c
        rw [e, w1 (by omega)]
        refine Gives.some_bind (Gives.pos (hr.2 ⟨hy, hc, hu.trans (.up h (.refl _))⟩) ?_)
        exact ih (rd ab x) (s + 1) (by omega) (.inl ⟨hc, hy, hu.trans (.up h (.refl _)), by omega⟩)
      · apply Classical.byContradiction
        intro h0
        exact h (t.pos hx h0)
    · refine Gives.step (fun _ => rfl) ?_
      simp only [portolanlaw06_DomTree.l1]
      have := t.ao x c0 c1 hc
      refine Gives.pos c0 (Gives.pos (by rw [t.la]; exact c1) (Gives.neg (by omega) (stop x (fun h => absurd h hc))))
theorem domTree_j2 {c : Int} (c0 : 0 ≤ c) (c1 : c < (f.f4.length : Int)) (x : Bool) (hx : x = false) : Gives (fun k => portolanlaw06_DomTree.j2 k (i : Int) (f.f4.length : Int) c x p u v z f.f0 f.f1 f.f2 f.f3 f.f4) (fun r => r = true) := by
  have t := da.tr
  subst hx
  refine Gives.step (fun _ => rfl) ?_
  simp only [portolanlaw06_DomTree.j2]
  rw [da.abv]
  refine Gives.neg (by simp) (Gives.some_bind (Gives.pos (by rw [t.la]) ?_))
  refine domTree_l1 p f da i hi u v z H c0 c1 ((rd dp c).toNat + 1) c 0 (by omega) ?_
  by_cases h : c ∈ orderL f.f4
  · exact .inl ⟨h, h, .refl _, by omega⟩
  · exact .inr ⟨h, rfl, rfl⟩
theorem domTree_j1 {a b c : Int} (c0 : 0 ≤ c) (c1 : c < (f.f4.length : Int)) (x : Bool) (hx : x = false) : Gives (fun k => portolanlaw06_DomTree.j1 k (i : Int) (f.f4.length : Int) a b c x p u v z f.f0 f.f1 f.f2 f.f3 f.f4) (fun r => r = true) := by
  subst hx
  refine Gives.step (fun _ => rfl) ?_
  simp only [portolanlaw06_DomTree.j1]
  obtain ⟨r1, e1, hr1⟩ := da.dom a c
  obtain ⟨r2, e2, hr2⟩ := da.dom b c
  obtain ⟨r3, e3, hr3⟩ := da.dom a b
  obtain ⟨r4, e4, hr4⟩ := da.dom b a
  rw [e1, e2, e3, e4]
  refine Gives.neg (by simp) (Gives.some_bind (Gives.ite (fun h1 => Gives.some_bind (Gives.ite (fun h2 => Gives.some_bind (Gives.ite (fun h3 => domTree_j2 p f da i hi u v z H c0 c1 _ rfl) (fun h3 => Gives.some_bind (domTree_j2 p f da i hi u v z H c0 c1 _ ?_)))) (fun _ => domTree_j2 p f da i hi u v z H c0 c1 _ rfl))) (fun _ => domTree_j2 p f da i hi u v z H c0 c1 _ rfl)))
  have k1 := hr1.1 h1
  have k2 := hr2.1 h2
  have : r4 = true := by
    rcases k1.2.2.lin k2.2.2 with k | k
    · exact hr4.2 ⟨k2.1, k1.1, k⟩
    · exact absurd (hr3.2 ⟨k1.1, k2.1, k⟩) h3
  rw [this]
  rfl
end
theorem domTree_l0 (p : List S30) (wp : WP p) (ok : OkProg p) (u v z : Int) (hu : 0 ≤ u ∧ u < 256) (hv : 0 ≤ v ∧ v < 256) (hz : 0 ≤ z ∧ z < 256) : ∀ (d i : Nat), p.length - i ≤ d → Gives (fun k => portolanlaw06_DomTree.l0 k (i : Int) p u v z) (fun r => r = true) := by
  have hp := wp.n
  intro d
  induction d with
  | zero =>
    intro i hi
    refine Gives.step (fun _ => rfl) ?_
    simp only [portolanlaw06_DomTree.l0]
    exact Gives.neg (by omega) (Gives.now rfl)
  | succ d ih =>
    intro i hi
    by_cases hlt : i < p.length
    · have hf := List.getElem_mem hlt
      have w := wp.w _ hf
      obtain ⟨ab, dp, da⟩ := dom_all ok hf w
      have hlo := da.lo
      have H := ih (i + 1) (by omega)
      refine Gives.step (fun _ => rfl) ?_
      simp only [portolanlaw06_DomTree.l0]
      rw [rdS30_at hlt]
      have hz2 := tmod_at hz.1 hz.2 hlo
      refine Gives.pos (by omega) (Gives.pos (by omega) (Gives.neg (by omega) ?_))
      generalize Int.tmod (wrap64 u) (p[i].f4.length : Int) = a
      generalize Int.tmod (wrap64 v) (p[i].f4.length : Int) = b
      generalize Int.tmod (wrap64 z) (p[i].f4.length : Int) = c at hz2 ⊢
      obtain ⟨r1, e1, hr1⟩ := da.dom a b
      obtain ⟨r2, e2, hr2⟩ := da.dom b c
      obtain ⟨r3, e3, hr3⟩ := da.dom a c
      rw [e1, e2, e3]
      refine Gives.some_bind (Gives.ite (fun h1 => Gives.some_bind (Gives.ite (fun h2 => Gives.some_bind (domTree_j1 p _ da i (by omega) u v z H hz2.1 hz2.2 _ ?_)) (fun _ => domTree_j1 p _ da i (by omega) u v z H hz2.1 hz2.2 _ rfl))) (fun _ => domTree_j1 p _ da i (by omega) u v z H hz2.1 hz2.2 _ rfl))
      have k1 := hr1.1 h1
      have k2 := hr2.1 h2
      have : r3 = true := hr3.2 ⟨k1.1, k2.2.1, k2.2.2.trans k1.2.2⟩
      rw [this]
      rfl
    · exact ih i (by omega)
theorem DomTree (p : List S30) (u v z : Int) (wp : WP p) (w1 : (Lit.int .u8 u).wf = true ∧ (Lit.int .u8 v).wf = true ∧ (Lit.int .u8 z).wf = true) : ∃ k, portolanlaw06_DomTree.f k p u v z = some true := by
  have h : Gives (fun k => portolanlaw06_DomTree.f k p u v z) (fun r => r = true) := by
    unfold portolanlaw06_DomTree.f
    refine Gives.bind alive6_gives (fun a ha => Gives.pos ha (Gives.bind (out6_gives p wp) (fun c hc => ?_)))
    refine Gives.ite (fun _ => Gives.now rfl) (fun h => ?_)
    exact domTree_l0 p wp (hc (by simpa using h)) u v z (u8 w1.1) (u8 w1.2.1) (u8 w1.2.2) _ 0 (Nat.le_refl _)
  obtain ⟨r, k, e, rfl⟩ := h.rounds
  exact ⟨k, e⟩
end Go.Proofs.Ytcknmcfomkbenaa.Pure
