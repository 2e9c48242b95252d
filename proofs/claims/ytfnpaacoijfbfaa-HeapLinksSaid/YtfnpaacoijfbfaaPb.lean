/- What is reached: the queue's answer and the marks' answer are one rising list. -/
import Derived.Test.YtfnpaacoijfbfaaPa
namespace Go.Proofs.Ytfnpaacoijfbfaa.Pure
open Go.RowKit Go.Proofs.YtfnpaacoijfbfaaW.PrintWords Go.Proofs.YtfnpaacoijfbfaaW.PrintLast Go.Proofs.YtfnpaacoijfbfaaW.PrintMore Go.Proofs.Ytfnpaacoijfbfaa.PX Go.Proofs.Ytfnpaacoijfbfaa.E Go.Proofs.Ytfnpaacoijfbfaa.PC
/-- Object i refers to object j. -/
def Edge (l : List S47) (i j : Nat) : Prop := 0 < j ∧ 0 < i ∧ ∃ o, l[i - 1]? = some o ∧ (j : Int) ∈ o.f0
def Reached (l : List S47) (roots : List Int) (x : Nat) : Prop := ∀ R : Nat → Prop, (∀ i : Nat, 0 < i → i ≤ l.length → (i : Int) ∈ roots → R i) → (∀ i j, Edge l i j → R i → R j) → R x
structure IsReach (l : List S47) (roots : List Int) (r : List Int) : Prop where
  rising : r.Pairwise (· < ·)
  short : r.length ≤ l.length + 1
  mem : ∀ x : Int, x ∈ r ↔ ∃ i : Nat, x = i ∧ 0 < i ∧ i ≤ l.length ∧ Reached l roots i
theorem IsReach.eq {l : List S47} {roots r r' : List Int} (h : IsReach l roots r) (h' : IsReach l roots r') : r = r' := rising_eq h.rising h'.rising fun x => (h.mem x).trans (h'.mem x).symm
theorem right_ref {l : List S47} (h : H.rightB l = true) {o : S47} (ho : o ∈ l) : o.f0.length ≤ 8 ∧ o.f1.length ≤ 8 ∧ ∀ x ∈ o.f0, 0 ≤ x ∧ x ≤ l.length := by
  unfold H.rightB at h
  rw [Bool.not_eq_true', List.any_eq_false] at h
  have := h o ho
  simp only [H.objB, Bool.or_eq_true, decide_eq_true_eq, not_or] at this
  obtain ⟨⟨h1, h2⟩, h3⟩ := this
  refine ⟨by omega, by omega, fun x hx => ?_⟩
  rw [Bool.not_eq_true, List.any_eq_false] at h3
  have := h3 x hx
  simp only [H.badB, Bool.or_eq_true, decide_eq_true_eq, not_or] at this
  omega
theorem Reached.root {l : List S47} {roots : List Int} {i : Nat} (h0 : 0 < i) (h1 : i ≤ l.length) (h : (i : Int) ∈ roots) : Reached l roots i := fun _ hR _ => hR i h0 h1 h
theorem Reached.step {l : List S47} {roots : List Int} {i j : Nat} (h : Reached l roots i) (e : Edge l i j) : Reached l roots j := fun R hR hE => hE i j e (h R hR hE)
theorem sortL_mem {l : List Int} {x : Int} : x ∈ H.sortL l ↔ x ∈ l := List.mem_mergeSort
theorem sortL_rising {l : List Int} (h : l.Nodup) : (H.sortL l).Pairwise (· < ·) := by
  have h1 : (H.sortL l).Pairwise (fun x y => decide (x ≤ y) = true) := List.pairwise_mergeSort (fun a b c h1 h2 => by simp at *; omega) (fun a b => by simp; omega) l
  have h2 : (H.sortL l).Nodup := (List.mergeSort_perm l _).nodup_iff.2 h
  refine (h1.and h2).imp ?_
  intro a b hab
  have := of_decide_eq_true hab.1
  have := hab.2
  omega
structure Inv (l : List S47) (roots : List Int) (met : List Bool) (out queue : List Int) : Prop where
  len : met.length = l.length + 1
  nodup : out.Nodup
  mem : ∀ i : Nat, mk met i ↔ (i : Int) ∈ out
  pos : ∀ x ∈ out, 0 < x
  outs : ∀ i : Nat, (i : Int) ∈ out → Reached l roots i
  queues : ∀ i : Nat, 0 < i → i ≤ l.length → (i : Int) ∈ queue → Reached l roots i
  rts : ∀ i : Nat, 0 < i → i ≤ l.length → (i : Int) ∈ roots → mk met i ∨ (i : Int) ∈ queue
  shut : ∀ i j : Nat, Edge l i j → mk met i → mk met j ∨ (j : Int) ∈ queue
  many : out.length = cnt met
theorem Inv.done {l : List S47} {roots : List Int} {met : List Bool} {out : List Int} (h : Inv l roots met out []) : IsReach l roots (H.sortL out) := by
  refine ⟨sortL_rising h.nodup, ?_, fun x => ?_⟩
  · have h1 : (H.sortL out).length = out.length := List.length_mergeSort _
    have := cnt_le met
    have := h.len
    have := h.many
    omega
  rw [sortL_mem]
  constructor
  · intro hx
    obtain ⟨i, rfl⟩ : ∃ i : Nat, x = i := ⟨x.toNat, by have := h.pos x hx; omega⟩
    have := h.pos _ hx
    have := mk_lt ((h.mem i).2 hx)
    have := h.len
    exact ⟨i, rfl, by omega, by omega, h.outs i hx⟩
  · rintro ⟨i, rfl, h0, h1, hR⟩
    refine (h.mem i).1 (hR (PC.mk met) ?_ ?_)
    · intro i a b c
      exact (h.rts i a b c).elim id (fun hf => by cases hf)
    · intro i j e hi
      exact (h.shut i j e hi).elim id (fun hf => by cases hf)
theorem Inv.drop {l : List S47} {roots : List Int} {met : List Bool} {out queue : List Int} {a : Int} (h : Inv l roots met out (a :: queue)) (ha : ∀ i : Nat, a = i → 0 < i → i ≤ l.length → PC.mk met i) (hr : H.rightB l = true) : Inv l roots met out queue := by
  refine ⟨h.len, h.nodup, h.mem, h.pos, h.outs, fun i a b c => h.queues i a b (List.mem_cons_of_mem _ c), fun i h0 h1 c => ?_, fun i j e hi => ?_, h.many⟩
  · rcases h.rts i h0 h1 c with h2 | h2
    · exact .inl h2
    · rcases List.mem_cons.1 h2 with h2 | h2
      · exact .inl (ha i h2.symm h0 h1)
      · exact .inr h2
  · rcases h.shut i j e hi with h2 | h2
    · exact .inl h2
    · rcases List.mem_cons.1 h2 with h2 | h2
      · obtain ⟨e0, e1, o, eo, em⟩ := e
        have := (right_ref hr (List.mem_of_getElem? eo)).2.2 _ em
        exact .inl (ha j h2.symm e0 (by omega))
      · exact .inr h2
theorem Inv.meet {l : List S47} {roots : List Int} {met : List Bool} {out queue : List Int} {a : Nat} (h : Inv l roots met out ((a : Int) :: queue)) (h0 : 0 < a) (h1 : a ≤ l.length) (hn : ¬ PC.mk met a) (hb : a - 1 < l.length) : Inv l roots (met.set a true) (out ++ [(a : Int)]) (queue ++ (l[a - 1]'hb).f0) ∧ cnt met < cnt (met.set a true) := by
  have hlt : a < met.length := by have := h.len; omega
  have hc : cnt met < cnt (met.set a true) := cnt_lt (by simp) (fun i hi => (mk_set hlt).2 (.inl hi)) ⟨a, (mk_set hlt).2 (.inr rfl), hn⟩
  have hout : (a : Int) ∉ out := fun hm => hn ((h.mem a).2 hm)
  have hR : Reached l roots a := h.queues a h0 h1 (List.mem_cons_self ..)
  refine ⟨⟨by rw [List.length_set]; exact h.len, ?_, ?_, ?_, ?_, ?_, ?_, ?_, ?_⟩, hc⟩
  · rw [List.nodup_append]
    exact ⟨h.nodup, by simp, by intro x hx y hy; simp at hy; subst hy; rintro rfl; exact hout hx⟩
  · intro i
    rw [mk_set hlt, List.mem_append, List.mem_singleton, h.mem i]
    constructor
    · rintro (h | rfl)
      · exact .inl h
      · exact .inr rfl
    · rintro (h | h)
      · exact .inl h
      · exact .inr (by omega)
  · intro x hx
    rcases List.mem_append.1 hx with hx | hx
    · exact h.pos x hx
    · simp at hx; omega
  · intro i hx
    rcases List.mem_append.1 hx with hx | hx
    · exact h.outs i hx
    · simp at hx
      have : i = a := by omega
      exact this ▸ hR
  · intro i a0 a1 hx
    rcases List.mem_append.1 hx with hx | hx
    · exact h.queues i a0 a1 (List.mem_cons_of_mem _ hx)
    · exact hR.step ⟨a0, h0, _, List.getElem?_eq_getElem hb, hx⟩
  · intro i a0 a1 hx
    rw [mk_set hlt]
    rcases h.rts i a0 a1 hx with h2 | h2
    · exact .inl (.inl h2)
    · rcases List.mem_cons.1 h2 with h2 | h2
      · exact .inl (.inr (by omega))
      · exact .inr (List.mem_append.2 (.inl h2))
  · intro i j e hi
    rw [mk_set hlt] at hi ⊢
    rcases hi with hi | rfl
    · rcases h.shut i j e hi with h2 | h2
      · exact .inl (.inl h2)
      · rcases List.mem_cons.1 h2 with h2 | h2
        · exact .inl (.inr (by omega))
        · exact .inr (List.mem_append.2 (.inl h2))
    · obtain ⟨e0, e1, o, eo, em⟩ := e
      rw [List.getElem?_eq_getElem hb] at eo
      injection eo with eo
      subst eo
      exact .inr (List.mem_append.2 (.inr em))
  · have : cnt (met.set a true) = cnt met + 1 := by
      unfold cnt
      have : met[a]'hlt = false := by
        cases hc : met[a]'hlt with
        | false => rfl
        | true => exact absurd (by unfold PC.mk; rw [List.getElem?_eq_getElem hlt, hc]) hn
      rw [List.countP_set hlt]
      simp [this]
    rw [List.length_append, this, h.many]
    rfl
theorem reach_l0 (l : List S47) (hl : l.length ≤ 301) (hr : H.rightB l = true) (roots : List Int) : ∀ n met out queue, queue.length + 9 * (l.length + 1 - cnt met) ≤ n → n ≤ 5000 → Inv l roots met out queue →
    ∃ r, Ev (fun k => heap_Reach.l0 k met out queue l) r ∧ IsReach l roots r := by
  intro n
  induction n with
  | zero =>
    intro met out queue hm hn h
    have := cnt_le met
    have := h.len
    cases queue with
    | cons a q => simp at hm
    | nil =>
      refine ⟨H.sortL out, ?_, h.done⟩
      refine Ev.step (fun _ => rfl) ?_
      simp only [heap_Reach.l0]
      refine Ev.neg (by simp) ?_
      have hlen := h.many
      simp only [slices_Sort_int_int.f]
      rw [if_pos (by omega)]
      exact Ev.now _
  | succ n ih =>
    intro met out queue hm hn h
    have hcl := cnt_le met
    have hle := h.len
    have hlen := h.many
    cases queue with
    | nil =>
      refine ⟨H.sortL out, ?_, h.done⟩
      refine Ev.step (fun _ => rfl) ?_
      simp only [heap_Reach.l0]
      refine Ev.neg (by simp) ?_
      simp only [slices_Sort_int_int.f]
      rw [if_pos (by omega)]
      exact Ev.now _
    | cons a q =>
      have h0 : rd (a :: q) 0 = a := rfl
      have hq : (a :: q).drop (1 : Int).toNat = q := rfl
      rw [List.length_cons] at hm
      have skip : (∀ i : Nat, a = i → 0 < i → i ≤ l.length → mk met i) → ∃ r, Ev (fun k => heap_Reach.l0 k met out q l) r ∧ IsReach l roots r := fun hs => ih met out q (by omega) (by omega) (h.drop hs hr)
      by_cases c1 : a ≤ 0
      · obtain ⟨r, e1, e2⟩ := skip (fun i _ _ _ => by omega)
        refine ⟨r, Ev.step (fun _ => rfl) ?_, e2⟩
        simp only [heap_Reach.l0]
        rw [h0, hq]
        exact Ev.pos (by simp <;> omega) (Ev.pos (by simp <;> omega) (Ev.pos c1 (Ev.pos (by simp <;> omega) e1)))
      obtain ⟨b, rfl⟩ : ∃ b : Nat, a = b := ⟨a.toNat, by omega⟩
      by_cases c2 : (b : Int) ≥ (met.length : Int)
      · obtain ⟨r, e1, e2⟩ := skip (fun i hi _ _ => by omega)
        refine ⟨r, Ev.step (fun _ => rfl) ?_, e2⟩
        simp only [heap_Reach.l0]
        rw [h0, hq]
        exact Ev.pos (by simp <;> omega) (Ev.pos (by simp <;> omega) (Ev.neg c1 (Ev.pos c2 (Ev.pos (by simp <;> omega) e1))))
      have hb : b < met.length := by omega
      by_cases c3 : mk met b
      · obtain ⟨r, e1, e2⟩ := skip (fun i hi _ _ => by
          have : b = i := by omega
          exact this ▸ c3)
        refine ⟨r, Ev.step (fun _ => rfl) ?_, e2⟩
        simp only [heap_Reach.l0]
        rw [h0, hq]
        exact Ev.pos (by simp <;> omega) (Ev.pos (by simp <;> omega) (Ev.neg c1 (Ev.neg c2 (Ev.pos (by omega) (Ev.pos (by omega) (Ev.pos (mk_getD.2 c3) (Ev.pos (by simp <;> omega) e1)))))))
      · have hb1 : b - 1 < l.length := by omega
        obtain ⟨h2, hc⟩ := h.meet (by omega) (by omega) c3 hb1
        have hcl2 := cnt_le (met.set b true)
        rw [List.length_set] at hcl2
        have h8 := right_ref hr (List.getElem_mem hb1)
        obtain ⟨r, e1, e2⟩ := ih _ _ _ (by rw [List.length_append]; omega) (by omega) h2
        refine ⟨r, Ev.step (fun _ => rfl) ?_, e2⟩
        have hw : wrap64 ((b : Int) - 1) = ((b - 1 : Nat) : Int) := by unfold wrap64; omega
        have hq2 : ((b : Int) :: q ++ (l[b - 1]'hb1).f0).drop (1 : Int).toNat = q ++ (l[b - 1]'hb1).f0 := rfl
        simp only [heap_Reach.l0, Option.bind_some]
        rw [h0, hq, hw, rdT_at hb1, hq2, Int.toNat_natCast]
        refine Ev.pos (by simp <;> omega) (Ev.pos (by simp <;> omega) (Ev.neg c1 (Ev.neg c2 (Ev.pos (by omega) (Ev.pos (by omega) (Ev.neg (fun hh => c3 (mk_getD.1 hh)) (Ev.pos (by omega) (Ev.pos (by omega) (Ev.pos (by omega) (Ev.pos (by rw [List.length_cons]; omega) (Ev.pos (by simp <;> omega) e1)))))))))))
theorem cnt_none (n : Nat) : cnt (List.replicate n false) = 0 := by
  unfold cnt
  rw [List.countP_eq_zero]
  intro a ha
  rw [List.eq_of_mem_replicate ha]
  decide
theorem Inv.start (l : List S47) (roots : List Int) : Inv l roots (List.replicate (l.length + 1) false) [] roots :=
  ⟨List.length_replicate, List.nodup_nil, fun i => ⟨fun h => (mk_rep h).elim, fun h => (by cases h)⟩, fun x h => (by cases h), fun i h => (by cases h), fun i a b c => Reached.root a b c, fun i _ _ h => .inr h, fun i j _ h => (mk_rep h).elim, (cnt_none _).symm⟩
theorem reach (l : List S47) (hl : l.length ≤ 301) (hr : H.rightB l = true) (roots : List Int) (h50 : roots.length ≤ 50) : ∃ r, Ev (fun k => heap_Reach.f k l roots) r ∧ IsReach l roots r := by
  have hc0 := cnt_none (l.length + 1)
  obtain ⟨r, h1, h2⟩ := reach_l0 l hl hr roots 5000 (List.replicate (l.length + 1) false) [] roots (by omega) (Nat.le_refl _) (Inv.start l roots)
  refine ⟨r, ?_, h2⟩
  have hcl : roots.length ≤ 17592186044416 := by omega
  have e : (wrap64 ((l.length : Int) + 1)).toNat = l.length + 1 := by unfold wrap64; omega
  have e0 : 0 ≤ wrap64 ((l.length : Int) + 1) := by unfold wrap64; omega
  have e1 : l.length + 1 ≤ 281474976710656 := by omega
  simp only [heap_Reach.f, heap_Right.f, Option.bind_some, hr, slices_Clone_int_int.f, if_pos hcl, e, if_pos e0, if_pos e1, if_true]
  exact h1
theorem reach_wrong (l : List S47) (hr : H.rightB l = false) (roots : List Int) : Ev (fun k => heap_Reach.f k l roots) [] := by
  simp only [heap_Reach.f, heap_Right.f, Option.bind_some, hr]
  exact Ev.neg (by decide) (Ev.now _)
end Go.Proofs.Ytfnpaacoijfbfaa.Pure
