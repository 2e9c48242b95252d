/- Where two blocks meet dominates both, and so does nothing below it; 0 dominates all that is reached: the plain statement. -/
import Derived.Test.YtcknmcfomkbenaaPFx24
import Derived.Test.YtcknmcfomkbenaaPL
namespace Go.Proofs.Ytcknmcfomkbenaa.Pure
open Go.RowKit Go.Proofs.YtcknmcfomkbenaaW.PrintWords Go.Proofs.YtcknmcfomkbenaaW.PrintLast Go.Proofs.YtcknmcfomkbenaaW.PrintMore Go.Proofs.Ytcknmcfomkbenaa.PF Go.Proofs.Ytcknmcfomkbenaa.E Go.Proofs.Ytcknmcfomkbenaa.D
set_option linter.unusedVariables false
section
variable (p : List S30) (f : S30) {ab dp : List Int} (da : DA f ab dp) (i : Nat) (hi : i < 4611686018427387904) (u v : Int) (H : Gives (fun k => portolanlaw06_DomMeets.l0 k ((i + 1 : Nat) : Int) p u v) (fun r => r = true))
include da hi H
theorem domMeets_l1 {a b m : Int} (hm : ∀ x, Up ab a x → Up ab b x → Up ab m x) (hmo : m ∈ orderL f.f4) : ∀ (d j : Nat), (kidsL ab m f.f4.length).length - j ≤ d → Gives (fun k => portolanlaw06_DomMeets.l1 k (i : Int) a b (kidsL ab m f.f4.length) (j : Int) p u v f.f0 f.f1 f.f2 f.f3 f.f4) (fun r => r = true) := by
  have t := da.tr
  have hi2 := da.hi
  have hkl := kidsL_len ab m f.f4.length
  have hmem : ∀ x : Int, x ∈ kidsL ab m f.f4.length ↔ _ := fun x => mem_kidsL f.f4.length
  generalize kidsL ab m f.f4.length = l at hkl hmem ⊢
  have fin : ∀ j : Nat, l.length ≤ j → Gives (fun k => portolanlaw06_DomMeets.l1 k (i : Int) a b l (j : Int) p u v f.f0 f.f1 f.f2 f.f3 f.f4) (fun r => r = true) := by
    intro j hj
    refine Gives.step (fun _ => rfl) ?_
    simp only [portolanlaw06_DomMeets.l1]
    rw [w1 hi]
    exact Gives.neg (by omega) H
  intro d
  induction d with
  | zero => exact fun j hj => fin j (by omega)
  | succ d ih =>
    intro j hj
    by_cases hlt : j < l.length
    · have hx := (hmem l[j]).1 (List.getElem_mem hlt)
      refine Gives.step (fun _ => rfl) ?_
      simp only [portolanlaw06_DomMeets.l1]
      obtain ⟨r1, e1, hr1⟩ := da.dom l[j] a
      obtain ⟨r2, e2, hr2⟩ := da.dom l[j] b
      rw [rd_at hlt, e1, e2, w1 (by omega)]
      refine Gives.pos (by omega) (Gives.pos (by omega) (Gives.some_bind (Gives.ite (fun h1 => Gives.some_bind (Gives.neg (fun h2 => ?_) (ih (j + 1) (by omega)))) (fun _ => ih (j + 1) (by omega)))))
      have k1 := hr1.1 h1
      have k2 := hr2.1 h2
      have k3 := (t.inn (hm _ k1.2.2 k2.2.2) hmo).2
      have hxo := k1.1
      have hx0 := t.ne hx.2.2.2
      have hd := t.ds _ hxo hx0
      rw [hx.2.2.1] at hd
      rcases k3 with e | e
      · rw [e] at hd; omega
      · omega
    · exact fin j (by omega)
theorem domMeets_j1 (a b m : Int) (x : Bool) (hx : x = true ↔ ¬ (a ∈ orderL f.f4 ∧ b ∈ orderL f.f4)) (hm1 : a ∈ orderL f.f4 ∧ b ∈ orderL f.f4 → m ∈ orderL f.f4 ∧ Up ab a m ∧ Up ab b m ∧ ∀ x, Up ab a x → Up ab b x → Up ab m x) (hm2 : ¬ (a ∈ orderL f.f4 ∧ b ∈ orderL f.f4) → m = -1) :
    Gives (fun k => portolanlaw06_DomMeets.j1 k (i : Int) a b m x p u v f.f0 f.f1 f.f2 f.f3 f.f4) (fun r => r = true) := by
  have t := da.tr
  refine Gives.step (fun _ => rfl) ?_
  simp only [portolanlaw06_DomMeets.j1]
  obtain ⟨r1, e1, hr1⟩ := da.dom m a
  obtain ⟨r2, e2, hr2⟩ := da.dom m b
  obtain ⟨m2, e3, hm3, _⟩ := da.met b a
  rw [e1, e2, e3, w1 hi]
  refine Gives.ite (fun h => Gives.pos (hm2 (hx.1 h)) H) (fun h => ?_)
  have hab : a ∈ orderL f.f4 ∧ b ∈ orderL f.f4 := Classical.byContradiction (fun h2 => h (hx.2 h2))
  obtain ⟨k1, k2, k3, k4⟩ := hm1 hab
  obtain ⟨q1, q2, q3, q4⟩ := hm3 ⟨hab.2, hab.1⟩
  refine Gives.some_bind (Gives.pos (hr1.2 ⟨k1, hab.1, k2⟩) (Gives.some_bind (Gives.pos (hr2.2 ⟨k1, hab.2, k3⟩) (Gives.some_bind ?_))))
  have e : m = m2 := by
    have h1 := (t.inn (k4 m2 q3 q2) k1).2
    have h2 := (t.inn (q4 m k3 k2) q1).2
    rcases h1 with e | h1
    · exact e.symm
    · rcases h2 with e | h2
      · exact e
      · omega
  subst e
  refine Gives.step (fun _ => rfl) ?_
  simp only [portolanlaw06_DomMeets.j2]
  rw [da.kid m]
  exact Gives.neg (by simp) (Gives.some_bind (domMeets_l1 p f da i hi u v H k4 k1 _ 0 (Nat.le_refl _)))
end
theorem domMeets_l0 (p : List S30) (wp : WP p) (ok : OkProg p) (u v : Int) : ∀ (d i : Nat), p.length - i ≤ d → Gives (fun k => portolanlaw06_DomMeets.l0 k (i : Int) p u v) (fun r => r = true) := by
  have hp := wp.n
  intro d
  induction d with
  | zero =>
    intro i hi
    refine Gives.step (fun _ => rfl) ?_
    simp only [portolanlaw06_DomMeets.l0]
    exact Gives.neg (by omega) (Gives.now rfl)
  | succ d ih =>
    intro i hi
    by_cases hlt : i < p.length
    · have hf := List.getElem_mem hlt
      have w := wp.w _ hf
      obtain ⟨ab, dp, da⟩ := dom_all ok hf w
      have t := da.tr
      have hlo := da.lo
      have hhi := da.hi
      have H := ih (i + 1) (by omega)
      refine Gives.step (fun _ => rfl) ?_
      simp only [portolanlaw06_DomMeets.l0]
      rw [rdS30_at hlt]
      refine Gives.pos (by omega) (Gives.pos (by omega) (Gives.neg (by omega) ?_))
      generalize Int.tmod (wrap64 u) (p[i].f4.length : Int) = a
      generalize Int.tmod (wrap64 v) (p[i].f4.length : Int) = b
      obtain ⟨m, e1, hm1, hm2⟩ := da.met a b
      obtain ⟨r1, e2, hr1⟩ := da.dom 0 a
      obtain ⟨r2, e3, hr2⟩ := da.dom 0 b
      have z : ∀ {c : Int} {r : Bool}, (r = true ↔ 0 ∈ orderL p[i].f4 ∧ c ∈ orderL p[i].f4 ∧ Up ab c 0) → (r = true ↔ c ∈ orderL p[i].f4) := by
        intro c r h
        exact h.trans ⟨fun h2 => h2.2.1, fun h2 => ⟨t.z, h2, t.zero_up (p[i].f4.length + 1) c h2 (by have := (t.dn c h2).2; omega)⟩⟩
      have z1 := z hr1
      have z2 := z hr2
      rw [e1, e2, e3]
      refine Gives.some_bind (Gives.some_bind (Gives.ite (fun h1 => Gives.some_bind (domMeets_j1 p _ da i (by omega) u v H a b m _ ?_ hm1 hm2)) (fun h1 => domMeets_j1 p _ da i (by omega) u v H a b m _ ?_ hm1 hm2)))
      · have ha := z1.1 h1
        cases r2 with
        | true => simp [ha, z2.1 rfl]
        | false =>
          have : b ∉ orderL p[i].f4 := fun h => by have := z2.2 h; cases this
          simp [this]
      · have : a ∉ orderL p[i].f4 := fun h => h1 (z1.2 h)
        simp [this]
    · exact ih i (by omega)
theorem DomMeets (p : List S30) (u v : Int) (wp : WP p) (w1 : (Lit.int .u8 u).wf = true ∧ (Lit.int .u8 v).wf = true) : ∃ k, portolanlaw06_DomMeets.f k p u v = some true := by
  have h : Gives (fun k => portolanlaw06_DomMeets.f k p u v) (fun r => r = true) := by
    unfold portolanlaw06_DomMeets.f
    refine Gives.bind alive6_gives (fun a ha => Gives.pos ha (Gives.bind (out6_gives p wp) (fun c hc => ?_)))
    refine Gives.ite (fun _ => Gives.now rfl) (fun h => ?_)
    exact domMeets_l0 p wp (hc (by simpa using h)) u v _ 0 (Nat.le_refl _)
  obtain ⟨r, k, e, rfl⟩ := h.rounds
  exact ⟨k, e⟩
end Go.Proofs.Ytcknmcfomkbenaa.Pure
