/- What is reached is block 0, and what comes next to what is reached, and nothing else: the plain statement. -/
import Derived.Test.YtcknmcfomkbenaaPFx14
import Derived.Test.YtcknmcfomkbenaaPFx19
import Derived.Test.YtcknmcfomkbenaaPT
namespace Go.Proofs.Ytcknmcfomkbenaa.Pure
open Go.RowKit Go.Proofs.YtcknmcfomkbenaaW.PrintWords Go.Proofs.YtcknmcfomkbenaaW.PrintLast Go.Proofs.YtcknmcfomkbenaaW.PrintMore Go.Proofs.Ytcknmcfomkbenaa.PF Go.Proofs.Ytcknmcfomkbenaa.E Go.Proofs.Ytcknmcfomkbenaa.D
set_option linter.unusedVariables false
theorem flowReach_l4 (p : List S30) (f : S30) (w : W30 f) (i b : Nat) (m : List Bool) (hm : m.length = f.f4.length) (hb : b < f.f4.length) (H : Gives (fun k => portolanlaw05_FlowReach.l2 k (i : Int) m ((b + 1 : Nat) : Int) p f.f0 f.f1 f.f2 f.f3 f.f4) (fun r => r = true)) (l : List Int) (hl : l.length ≤ 17592186043904) (hr : ∀ x ∈ l, 0 ≤ x ∧ x < (m.length : Int)) (need : M m (b : Int) → b = 0 ∨ ∃ x ∈ l, M m x) :
    ∀ (d j : Nat) (x : Bool), l.length - j ≤ d → (x = true ↔ b = 0 ∨ ∃ y ∈ l.take j, M m y) → Gives (fun k => portolanlaw05_FlowReach.l4 k (i : Int) m (b : Int) l x (j : Int) p f.f0 f.f1 f.f2 f.f3 f.f4) (fun r => r = true) := by
  have h4 := w.n4
  have fin : ∀ (j : Nat) (x : Bool), l.length ≤ j → (x = true ↔ b = 0 ∨ ∃ y ∈ l.take j, M m y) → Gives (fun k => if 0 ≤ (b : Int) then (if (b : Int) < (m.length : Int) then (if rdOf false m (b : Int) = true then (if x = true then (portolanlaw05_FlowReach.l2 k (i : Int) m (wrap64 ((b : Int) + 1)) p f.f0 f.f1 f.f2 f.f3 f.f4) else (some false)) else (portolanlaw05_FlowReach.l2 k (i : Int) m (wrap64 ((b : Int) + 1)) p f.f0 f.f1 f.f2 f.f3 f.f4)) else (none)) else (none)) (fun r => r = true) := by
    intro j x hj hx
    rw [List.take_of_length_le hj] at hx
    rw [w1 (by omega)]
    refine Gives.pos (by omega) (Gives.pos (by omega) (Gives.ite (fun h => Gives.pos (hx.2 (need ((M_rd (by omega)).1 h))) H) (fun _ => H)))
  intro d
  induction d with
  | zero =>
    intro j x hj hx
    refine Gives.step (fun _ => rfl) ?_
    simp only [portolanlaw05_FlowReach.l4]
    exact Gives.neg (by omega) (fin j x (by omega) hx)
  | succ d ih =>
    intro j x hj hx
    refine Gives.step (fun _ => rfl) ?_
    simp only [portolanlaw05_FlowReach.l4]
    refine Gives.ite (fun h1 => ?_) (fun h1 => fin j x (by omega) hx)
    have hlt : j < l.length := by omega
    rw [w1 (by omega)]
    refine Gives.ite (fun h2 => ?_) (fun h2 => Gives.pos (by omega) ?_)
    · refine ih (j + 1) true (by omega) ⟨fun _ => ?_, fun _ => rfl⟩
      rw [List.take_succ_eq_append_getElem hlt]
      exact (hx.1 h2).imp_right (fun ⟨y, h3, h4⟩ => ⟨y, List.mem_append.2 (.inl h3), h4⟩)
    · rw [rd_at hlt]
      have hj := hr _ (List.getElem_mem hlt)
      refine Gives.pos hj.1 (Gives.pos hj.2 (ih (j + 1) _ (by omega) ?_))
      rw [List.take_succ_eq_append_getElem hlt, M_rd hj.1]
      constructor
      · exact fun h => .inr ⟨_, List.mem_append.2 (.inr (by simp)), h⟩
      · rintro (h | ⟨y, h3, h5⟩)
        · exact absurd (hx.2 (.inl h)) h2
        · rcases List.mem_append.1 h3 with h3 | h3
          · exact absurd (hx.2 (.inr ⟨y, h3, h5⟩)) h2
          · rw [List.mem_singleton.1 h3] at h5; exact h5
theorem flowReach_l3 (p : List S30) (f : S30) (w : W30 f) (i b : Nat) (m : List Bool) (hm : m.length = f.f4.length) (hb : b < f.f4.length) (H : Gives (fun k => portolanlaw05_FlowReach.l2 k (i : Int) m ((b + 1 : Nat) : Int) p f.f0 f.f1 f.f2 f.f3 f.f4) (fun r => r = true)) (nl l : List Int) (hnl : nl.length ≤ 17592186043904) (hn : M m (b : Int) → ∀ x ∈ nl, M m x) (hl : l.length ≤ 17592186043904) (hr : ∀ x ∈ l, 0 ≤ x ∧ x < (m.length : Int)) (need : M m (b : Int) → b = 0 ∨ ∃ x ∈ l, M m x) :
    ∀ (d j : Nat), nl.length - j ≤ d → Gives (fun k => portolanlaw05_FlowReach.l3 k (i : Int) m (b : Int) nl l (j : Int) p f.f0 f.f1 f.f2 f.f3 f.f4) (fun r => r = true) := by
  have h4 := w.n4
  have fin : ∀ (j : Nat) (x : Bool), x = false → Gives (fun k => portolanlaw05_FlowReach.j4 k (i : Int) m (b : Int) nl l (j : Int) x p f.f0 f.f1 f.f2 f.f3 f.f4) (fun r => r = true) := by
    intro j x hx
    refine Gives.step (fun _ => rfl) ?_
    simp only [portolanlaw05_FlowReach.j4]
    refine Gives.neg (by simp [hx]) ?_
    refine flowReach_l4 p f w i b m hm hb H l hl hr need _ 0 _ (Nat.le_refl _) ?_
    simp only [List.take_zero, List.not_mem_nil, false_and, exists_false, or_false, beq_iff_eq]
    omega
  intro d
  induction d with
  | zero =>
    intro j hj
    refine Gives.step (fun _ => rfl) ?_
    simp only [portolanlaw05_FlowReach.l3]
    exact Gives.neg (by omega) (fin j _ rfl)
  | succ d ih =>
    intro j hj
    refine Gives.step (fun _ => rfl) ?_
    simp only [portolanlaw05_FlowReach.l3]
    refine Gives.ite (fun h1 => Gives.pos (by omega) (Gives.pos (by omega) ?_)) (fun h1 => fin j _ rfl)
    have hlt : j < nl.length := by omega
    by_cases h2 : rdOf false m (b : Int) = true
    · refine Gives.step (fun _ => rfl) ?_
      simp only [portolanlaw05_FlowReach.j4]
      have h3 := hn ((M_rd (by omega)).1 h2) _ (List.getElem_mem hlt)
      have h5 := M_lt h3
      refine Gives.pos h2 (Gives.pos (by omega) (Gives.pos (by omega) ?_))
      rw [rd_at hlt, w1 (by omega)]
      exact Gives.pos h3.1 (Gives.pos h5 (Gives.pos ((M_rd h3.1).2 h3) (ih (j + 1) (by omega))))
    · exact fin j _ (by simpa using h2)
theorem flowReach_l2 (p : List S30) (f : S30) (w : W30 f) (i : Nat) (m : List Bool) (hm : m.length = f.f4.length) (h1 : 0 < f.f4.length) (tgt : ∀ a b, b ∈ nxt f.f4 a → 1 ≤ b ∧ b < (f.f4.length : Int)) (hM : ∀ x, M m x ↔ x ∈ orderL f.f4) (H : Gives (fun k => portolanlaw05_FlowReach.l0 k (wrap64 ((i : Int) + 1)) p) (fun r => r = true)) :
    ∀ (d b : Nat), f.f4.length - b ≤ d → Gives (fun k => portolanlaw05_FlowReach.l2 k (i : Int) m (b : Int) p f.f0 f.f1 f.f2 f.f3 f.f4) (fun r => r = true) := by
  have h4 := w.n4
  have o := (order_ord f.f4 h1).1
  have z : M m 0 := (hM 0).2 (List.mem_of_getElem? o.hd)
  have fin : ∀ b : Nat, f.f4.length ≤ b → Gives (fun k => if 0 < (m.length : Int) then (if rdOf false m 0 = true then (portolanlaw05_FlowReach.l0 k (wrap64 ((i : Int) + 1)) p) else (some false)) else (none)) (fun r => r = true) := by
    intro b hb
    exact Gives.pos (by omega) (Gives.pos ((M_rd (by omega)).2 z) H)
  intro d
  induction d with
  | zero =>
    intro b hb
    refine Gives.step (fun _ => rfl) ?_
    simp only [portolanlaw05_FlowReach.l2]
    exact Gives.neg (by omega) (fin b (by omega))
  | succ d ih =>
    intro b hb
    refine Gives.step (fun _ => rfl) ?_
    simp only [portolanlaw05_FlowReach.l2]
    refine Gives.ite (fun h2 => Gives.bind (flow_next_gives f w _) (fun a ha => Gives.bind (flow_prev_gives f w _) (fun c hc => ?_))) (fun h2 => fin b (by omega))
    subst ha
    subst hc
    have hnx := nxt_len f.f4 (b : Int)
    have hl : (prevL f.f4 (b : Int)).length ≤ f.f4.length := by
      unfold prevL
      split
      · exact ahead_len _ _ _
      · simp
    refine flowReach_l3 p f w i b m hm (by omega) (ih (b + 1) (by omega)) _ _ (by omega) (fun hb2 x hx => ?_) (by omega) (fun x hx => ?_) (fun hb2 => ?_) _ 0 (Nat.le_refl _)
    · have ht := tgt _ _ hx
      rw [hM] at hb2 ⊢
      rw [o.mem] at hb2 ⊢
      exact .step hb2 hx (by omega) ht.2
    · have := mem_prevL.1 hx
      omega
    · rw [hM] at hb2
      by_cases hb0 : b = 0
      · exact .inl hb0
      · obtain ⟨a, h5, h6⟩ := o.par _ hb2 (by omega)
        have h7 := o.rng a (Bef.mem h6).1
        exact .inr ⟨a, mem_prevL.2 ⟨by omega, h7.1, h7.2, h5⟩, (hM a).2 (Bef.mem h6).1⟩
theorem flowReach_l1 (p : List S30) (f : S30) (i : Nat) (l : List Int) (hl : l.length ≤ 17592186043904) (hn : l.Nodup) (hr : ∀ x ∈ l, 0 ≤ x ∧ x < (f.f4.length : Int)) (H : ∀ m : List Bool, m.length = f.f4.length → (∀ x, M m x ↔ x ∈ l) → Gives (fun k => portolanlaw05_FlowReach.l2 k (i : Int) m 0 p f.f0 f.f1 f.f2 f.f3 f.f4) (fun r => r = true)) :
    ∀ (d j : Nat) (m : List Bool), l.length - j ≤ d → j ≤ l.length → m.length = f.f4.length → (∀ x, M m x ↔ x ∈ l.take j) → Gives (fun k => portolanlaw05_FlowReach.l1 k (i : Int) m l (j : Int) p f.f0 f.f1 f.f2 f.f3 f.f4) (fun r => r = true) := by
  intro d
  induction d with
  | zero =>
    intro j m hj hj2 hm hM
    rw [List.take_of_length_le (by omega)] at hM
    refine Gives.step (fun _ => rfl) ?_
    simp only [portolanlaw05_FlowReach.l1]
    exact Gives.neg (by omega) (H m hm hM)
  | succ d ih =>
    intro j m hj hj2 hm hM
    by_cases hlt : j < l.length
    · refine Gives.step (fun _ => rfl) ?_
      simp only [portolanlaw05_FlowReach.l1]
      have hx := hr _ (List.getElem_mem hlt)
      have hnot : l[j] ∉ l.take j := by
        intro hm2
        obtain ⟨q, hq⟩ := List.mem_iff_getElem?.1 hm2
        have hq1 := (List.getElem?_eq_some_iff.1 hq).1
        rw [List.length_take] at hq1
        rw [List.getElem?_take, if_pos (by omega)] at hq
        obtain ⟨hq2, hq3⟩ := List.getElem?_eq_some_iff.1 hq
        have := (List.getElem_inj hn).1 hq3
        omega
      refine Gives.pos (by omega) (Gives.pos (by omega) ?_)
      rw [rd_at hlt, w1 (by omega)]
      refine Gives.neg (by omega) (Gives.neg (by omega) (Gives.pos (by omega) (Gives.pos (by omega) (Gives.neg ?_ ?_))))
      · rw [M_rd hx.1, hM]
        exact hnot
      · refine ih (j + 1) _ (by omega) (by omega) (by simpa using hm) (fun x => ?_)
        rw [M_set hx.1 (by omega), hM, List.take_succ_eq_append_getElem hlt, List.mem_append, List.mem_singleton]
    · exact ih j m (by omega) hj2 hm hM
theorem flowReach_l0 (p : List S30) (wp : WP p) (ok : OkProg p) : ∀ (d i : Nat), p.length - i ≤ d → Gives (fun k => portolanlaw05_FlowReach.l0 k (i : Int) p) (fun r => r = true) := by
  have hp := wp.n
  intro d
  induction d with
  | zero =>
    intro i hi
    refine Gives.step (fun _ => rfl) ?_
    simp only [portolanlaw05_FlowReach.l0]
    exact Gives.neg (by omega) (Gives.now rfl)
  | succ d ih =>
    intro i hi
    by_cases hlt : i < p.length
    · have w := wp.w _ (List.getElem_mem hlt)
      have ofn := ok.fn _ (List.getElem_mem hlt)
      have h40 := ofn.hi
      have h1 := ofn.lo
      obtain ⟨o, hl⟩ := order_ord p[i].f4 (by omega)
      have hs : (H.sortL (orderL p[i].f4)).length = (orderL p[i].f4).length := List.length_mergeSort _
      refine Gives.step (fun _ => rfl) ?_
      simp only [portolanlaw05_FlowReach.l0]
      refine Gives.pos (by omega) (Gives.pos (by omega) ?_)
      rw [rdS30_at hlt, Int.toNat_natCast]
      refine Gives.pos (by omega) (Gives.pos (by omega) ?_)
      rw [reach_is _ w (by omega) (by omega)]
      refine Gives.some_bind ?_
      have hnd : (H.sortL (orderL p[i].f4)).Nodup := (List.mergeSort_perm _ _).nodup_iff.2 o.nod
      refine flowReach_l1 p p[i] i _ (by omega) hnd (fun x hx => o.rng x (sortL_mem.1 hx)) (fun m hm hM => ?_) _ 0 _ (Nat.le_refl _) (Nat.zero_le _) (by simp) (fun x => ?_)
      · refine flowReach_l2 p p[i] w i m hm (by omega) (fun a b h => okp_tgt ok (List.getElem_mem hlt) h) (fun x => by rw [hM, sortL_mem]) ?_ _ 0 (Nat.le_refl _)
        rw [w1 (by omega)]
        exact ih (i + 1) (by omega)
      · simp only [List.take_zero, List.not_mem_nil, iff_false]
        exact M_rep
    · exact ih i (by omega)
theorem FlowReach (p : List S30) (wp : WP p) : ∃ k, portolanlaw05_FlowReach.f k p = some true := by
  have h : Gives (fun k => portolanlaw05_FlowReach.f k p) (fun r => r = true) := by
    unfold portolanlaw05_FlowReach.f
    refine Gives.bind alive_gives (fun a ha => Gives.pos ha (Gives.bind (out_gives p wp) (fun c hc => ?_)))
    refine Gives.ite (fun _ => Gives.now rfl) (fun h => ?_)
    exact flowReach_l0 p wp (hc (by simpa using h)) _ 0 (Nat.le_refl _)
  obtain ⟨r, k, e, rfl⟩ := h.rounds
  exact ⟨k, e⟩
end Go.Proofs.Ytcknmcfomkbenaa.Pure
