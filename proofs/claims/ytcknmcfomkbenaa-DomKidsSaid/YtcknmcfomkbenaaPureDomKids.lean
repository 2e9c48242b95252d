/- Each reached block but 0 is just one block's kid: the plain statement. -/
import Derived.Test.YtcknmcfomkbenaaPFx25
import Derived.Test.YtcknmcfomkbenaaPL
namespace Go.Proofs.Ytcknmcfomkbenaa.Pure
open Go.RowKit Go.Proofs.YtcknmcfomkbenaaW.PrintWords Go.Proofs.YtcknmcfomkbenaaW.PrintLast Go.Proofs.YtcknmcfomkbenaaW.PrintMore Go.Proofs.Ytcknmcfomkbenaa.PF Go.Proofs.Ytcknmcfomkbenaa.E Go.Proofs.Ytcknmcfomkbenaa.D
set_option linter.unusedVariables false
theorem kidsL_nodup (ab : List Int) (b : Int) : ∀ i : Nat, (kidsL ab b i).Nodup
  | 0 => by simp [kidsL]
  | i + 1 => by
    unfold kidsL
    split
    · rw [List.nodup_append]
      refine ⟨kidsL_nodup ab b i, by simp, fun x hx y hy => ?_⟩
      rw [List.mem_singleton.1 hy]
      have := ((mem_kidsL i).1 hx).2.1
      omega
    · exact kidsL_nodup ab b i
def Met (ab : List Int) (n b : Nat) (m : List Int) : Prop := m.length = n ∧ ∀ x : Int, 0 ≤ x → x < (n : Int) → rd m x = if 0 ≤ rd ab x ∧ rd ab x < (b : Int) then 1 else 0
theorem domKids_l2 (p : List S30) (f : S30) {ab dp : List Int} (da : DA f ab dp) (i b : Nat) (hb : b < f.f4.length) (H1 : ∀ m, Met ab f.f4.length (b + 1) m → Gives (fun k => portolanlaw06_DomKids.l1 k (i : Int) m ((b + 1 : Nat) : Int) p f.f0 f.f1 f.f2 f.f3 f.f4) (fun r => r = true)) :
    ∀ (d j : Nat) (m : List Int), (kidsL ab (b : Int) f.f4.length).length - j ≤ d → m.length = f.f4.length → (∀ x : Int, 0 ≤ x → x < (f.f4.length : Int) → rd m x = if (0 ≤ rd ab x ∧ rd ab x < (b : Int)) ∨ x ∈ (kidsL ab (b : Int) f.f4.length).take j then 1 else 0) →
      Gives (fun k => portolanlaw06_DomKids.l2 k (i : Int) m (b : Int) (kidsL ab (b : Int) f.f4.length) (j : Int) p f.f0 f.f1 f.f2 f.f3 f.f4) (fun r => r = true) := by
  have t := da.tr
  have hi2 := da.hi
  have hkl := kidsL_len ab (b : Int) f.f4.length
  have hnd := kidsL_nodup ab (b : Int) f.f4.length
  have hmem : ∀ x : Int, x ∈ kidsL ab (b : Int) f.f4.length ↔ _ := fun x => mem_kidsL f.f4.length
  generalize kidsL ab (b : Int) f.f4.length = l at hkl hnd hmem ⊢
  have fin : ∀ (j : Nat) (m : List Int), l.length ≤ j → m.length = f.f4.length → (∀ x : Int, 0 ≤ x → x < (f.f4.length : Int) → rd m x = if (0 ≤ rd ab x ∧ rd ab x < (b : Int)) ∨ x ∈ l.take j then 1 else 0) → Gives (fun k => portolanlaw06_DomKids.l2 k (i : Int) m (b : Int) l (j : Int) p f.f0 f.f1 f.f2 f.f3 f.f4) (fun r => r = true) := by
    intro j m hj hl hm
    rw [List.take_of_length_le hj] at hm
    refine Gives.step (fun _ => rfl) ?_
    simp only [portolanlaw06_DomKids.l2]
    rw [w1 (i := b) (by omega)]
    refine Gives.neg (by omega) (H1 m ⟨hl, fun x x0 x1 => ?_⟩)
    rw [hm x x0 x1]
    have : ((0 ≤ rd ab x ∧ rd ab x < (b : Int)) ∨ x ∈ l) ↔ (0 ≤ rd ab x ∧ rd ab x < ((b + 1 : Nat) : Int)) := by
      rw [hmem]
      omega
    simp only [this]
  intro d
  induction d with
  | zero => exact fun j m hj hl hm => fin j m (by omega) hl hm
  | succ d ih =>
    intro j m hj hl hm
    by_cases hlt : j < l.length
    · have hx := (hmem l[j]).1 (List.getElem_mem hlt)
      have hx1 : 1 ≤ l[j] := by
        apply Classical.byContradiction
        intro h
        have h0 : l[j] = 0 := by omega
        have := t.a0
        rw [h0] at hx
        omega
      have hno : l[j] ∉ l.take j := by
        intro h
        obtain ⟨q, hq, e⟩ := List.mem_take_iff_getElem.1 h
        have hq2 : q < j := by omega
        have := List.pairwise_iff_getElem.1 hnd q j (by omega) hlt hq2
        exact this e
      have hv : rd m l[j] = 0 := by
        rw [hm _ (by omega) hx.2.1, if_neg]
        rintro (h | h)
        · omega
        · exact hno h
      refine Gives.step (fun _ => rfl) ?_
      simp only [portolanlaw06_DomKids.l2]
      rw [rd_at hlt, hv, w1 (i := j) (by omega)]
      refine Gives.pos (by omega) (Gives.pos (by omega) (Gives.neg (by omega) (Gives.neg (by omega) (Gives.pos (by omega) (Gives.pos (by omega) ?_)))))
      rw [show wrap64 (0 + 1) = 1 from by simp [wrap64]]
      refine ih (j + 1) _ (by omega) (by rw [List.length_set]; exact hl) (fun x x0 x1 => ?_)
      rw [rd_set (by omega) (by omega) x0, List.take_succ_eq_append_getElem hlt]
      by_cases e : x = l[j]
      · rw [if_pos e, if_pos (.inr (List.mem_append.2 (.inr (List.mem_singleton.2 e))))]
      · rw [if_neg e, hm x x0 x1]
        have : x ∈ l.take j ++ [l[j]] ↔ x ∈ l.take j := by
          rw [List.mem_append, List.mem_singleton]
          exact ⟨fun h => h.resolve_right e, .inl⟩
        simp only [this]
    · exact fin j m (by omega) hl hm
section
variable (p : List S30) (f : S30) {ab dp : List Int} (da : DA f ab dp) (i : Nat) (hi : i < 4611686018427387904) (H : Gives (fun k => portolanlaw06_DomKids.l0 k ((i + 1 : Nat) : Int) p) (fun r => r = true))
include da hi H
theorem domKids_l3 (m : List Int) (hm : Met ab f.f4.length f.f4.length m) : ∀ (d b : Nat), f.f4.length - b ≤ d → Gives (fun k => portolanlaw06_DomKids.l3 k (i : Int) m (b : Int) p f.f0 f.f1 f.f2 f.f3 f.f4) (fun r => r = true) := by
  have t := da.tr
  have hi2 := da.hi
  have fin : ∀ b : Nat, f.f4.length ≤ b → Gives (fun k => portolanlaw06_DomKids.l3 k (i : Int) m (b : Int) p f.f0 f.f1 f.f2 f.f3 f.f4) (fun r => r = true) := by
    intro b hb
    refine Gives.step (fun _ => rfl) ?_
    simp only [portolanlaw06_DomKids.l3]
    rw [w1 hi]
    exact Gives.neg (by rw [hm.1]; omega) H
  intro d
  induction d with
  | zero => exact fun b hb => fin b (by omega)
  | succ d ih =>
    intro b hb
    by_cases hlt : b < f.f4.length
    · have hv := hm.2 (b : Int) (by omega) (by omega)
      have hab : (b : Int) ∈ orderL f.f4 → (b : Int) ≠ 0 → rd m (b : Int) = 1 := by
        intro h h0
        have h1 := t.pos h h0
        have h2 := t.rng _ (t.ai _ h h0)
        rw [hv, if_pos ⟨h1, by omega⟩]
      have hno : ¬ ((b : Int) ∈ orderL f.f4 ∧ (b : Int) ≠ 0) → rd m (b : Int) = 0 := by
        intro h
        rw [hv, if_neg]
        intro h2
        by_cases h3 : (b : Int) ∈ orderL f.f4
        · by_cases h4 : (b : Int) = 0
          · rw [h4] at h2
            have := t.a0
            omega
          · exact h ⟨h3, h4⟩
        · have := t.ao (b : Int) (by omega) (by omega) h3
          omega
      have nxt_ : Gives (fun k => portolanlaw06_DomKids.l3 k (i : Int) m (wrap64 ((b : Int) + 1)) p f.f0 f.f1 f.f2 f.f3 f.f4) (fun r => r = true) := by
        rw [w1 (by omega)]
        exact ih (b + 1) (by omega)
      have j4 : ∀ x : Bool, (x = true ↔ (b : Int) ∈ orderL f.f4 ∧ (b : Int) ≠ 0) → Gives (fun k => portolanlaw06_DomKids.j4 k (i : Int) m (b : Int) 0 x p f.f0 f.f1 f.f2 f.f3 f.f4) (fun r => r = true) := by
        intro x hx
        refine Gives.step (fun _ => rfl) ?_
        simp only [portolanlaw06_DomKids.j4]
        refine Gives.ite (fun h => Gives.pos (by omega) (Gives.pos (by rw [hm.1]; omega) (Gives.pos ?_ nxt_))) (fun h => Gives.pos (by omega) (Gives.pos (by rw [hm.1]; omega) (Gives.pos ?_ nxt_)))
        · have := hx.1 h
          exact hab this.1 this.2
        · exact hno (fun h2 => h (hx.2 h2))
      refine Gives.step (fun _ => rfl) ?_
      simp only [portolanlaw06_DomKids.l3]
      obtain ⟨r, e, hr⟩ := da.dom (b : Int) (b : Int)
      rw [e]
      refine Gives.pos (by rw [hm.1]; omega) (Gives.ite (fun h => Gives.some_bind (j4 r ?_)) (fun h => j4 false ?_))
      · exact hr.trans ⟨fun h2 => ⟨h2.1, by omega⟩, fun h2 => ⟨h2.1, h2.1, .refl _⟩⟩
      · simp only [Bool.false_eq_true, false_iff]
        omega
    · exact fin b (by omega)
theorem domKids_l1 : ∀ (d b : Nat) (m : List Int), f.f4.length - b ≤ d → b ≤ f.f4.length → Met ab f.f4.length b m → Gives (fun k => portolanlaw06_DomKids.l1 k (i : Int) m (b : Int) p f.f0 f.f1 f.f2 f.f3 f.f4) (fun r => r = true) := by
  have fin : ∀ (b : Nat) (m : List Int), f.f4.length = b → Met ab f.f4.length b m → Gives (fun k => portolanlaw06_DomKids.l1 k (i : Int) m (b : Int) p f.f0 f.f1 f.f2 f.f3 f.f4) (fun r => r = true) := by
    intro b m hb hm
    subst hb
    refine Gives.step (fun _ => rfl) ?_
    simp only [portolanlaw06_DomKids.l1]
    exact Gives.neg (by omega) (domKids_l3 p f da i hi H m hm f.f4.length 0 (by omega))
  intro d
  induction d with
  | zero => exact fun b m hb hb2 hm => fin b m (by omega) hm
  | succ d ih =>
    intro b m hb hb2 hm
    by_cases hlt : b < f.f4.length
    · refine Gives.step (fun _ => rfl) ?_
      simp only [portolanlaw06_DomKids.l1]
      rw [da.kid (b : Int)]
      refine Gives.pos (by omega) (Gives.some_bind ?_)
      refine domKids_l2 p f da i b hlt (fun m2 h2 => ih (b + 1) m2 (by omega) (by omega) h2) _ 0 m (Nat.le_refl _) hm.1 (fun x x0 x1 => ?_)
      rw [hm.2 x x0 x1]
      simp
    · exact fin b m (by omega) hm
end
theorem domKids_l0 (p : List S30) (wp : WP p) (ok : OkProg p) : ∀ (d i : Nat), p.length - i ≤ d → Gives (fun k => portolanlaw06_DomKids.l0 k (i : Int) p) (fun r => r = true) := by
  have hp := wp.n
  intro d
  induction d with
  | zero =>
    intro i hi
    refine Gives.step (fun _ => rfl) ?_
    simp only [portolanlaw06_DomKids.l0]
    exact Gives.neg (by omega) (Gives.now rfl)
  | succ d ih =>
    intro i hi
    by_cases hlt : i < p.length
    · have hf := List.getElem_mem hlt
      have w := wp.w _ hf
      obtain ⟨ab, dp, da⟩ := dom_all ok hf w
      have hlo := da.lo
      have hhi := da.hi
      have H := ih (i + 1) (by omega)
      refine Gives.step (fun _ => rfl) ?_
      simp only [portolanlaw06_DomKids.l0]
      rw [rdS30_at hlt, Int.toNat_natCast]
      refine Gives.pos (by omega) (Gives.pos (by omega) (Gives.pos (by omega) (Gives.pos (by omega) ?_)))
      refine domKids_l1 p _ da i (by omega) H p[i].f4.length 0 _ (by omega) (by omega) ⟨by simp, fun x x0 x1 => ?_⟩
      rw [rd_rep x0 x1, if_neg (by omega)]
    · exact ih i (by omega)
theorem DomKids (p : List S30) (wp : WP p) : ∃ k, portolanlaw06_DomKids.f k p = some true := by
  have h : Gives (fun k => portolanlaw06_DomKids.f k p) (fun r => r = true) := by
    unfold portolanlaw06_DomKids.f
    refine Gives.bind alive6_gives (fun a ha => Gives.pos ha (Gives.bind (out6_gives p wp) (fun c hc => ?_)))
    refine Gives.ite (fun _ => Gives.now rfl) (fun h => ?_)
    exact domKids_l0 p wp (hc (by simpa using h)) _ 0 (Nat.le_refl _)
  obtain ⟨r, k, e, rfl⟩ := h.rounds
  exact ⟨k, e⟩
end Go.Proofs.Ytcknmcfomkbenaa.Pure
