/- HeapNew in plain Lean: a new object reaches itself alone, and the others reach what they reached. -/
import Derived.Test.YtfnpaacoijfbfaaPXx11
import Derived.Test.YtfnpaacoijfbfaaPd
namespace Go.Proofs.Ytfnpaacoijfbfaa.Pure
open Go.RowKit Go.Proofs.YtfnpaacoijfbfaaW.PrintWords Go.Proofs.YtfnpaacoijfbfaaW.PrintLast Go.Proofs.YtfnpaacoijfbfaaW.PrintMore Go.Proofs.Ytfnpaacoijfbfaa.PX Go.Proofs.Ytfnpaacoijfbfaa.E Go.Proofs.Ytfnpaacoijfbfaa.PC
theorem grown_len (l : List S47) (a b : Int) : (grown l a b).length = l.length + 1 := by simp [grown]
theorem grown_right (l : List S47) (a b : Int) (ha : a ≤ 8) (hb : b ≤ 8) (h : H.rightB l = true) : H.rightB (grown l a b) = true := by
  unfold H.rightB
  rw [Bool.not_eq_true', List.any_eq_false]
  intro o ho
  simp only [H.objB, Bool.or_eq_true, decide_eq_true_eq, not_or]
  rw [Bool.not_eq_true, List.any_eq_false, grown_len]
  have key : o.f0.length ≤ 8 ∧ o.f1.length ≤ 8 ∧ ∀ x ∈ o.f0, 0 ≤ x ∧ x ≤ l.length + 1 := by
    rcases List.mem_append.1 ho with ho | ho
    · obtain ⟨h1, h2, h3⟩ := right_ref h ho
      exact ⟨h1, h2, fun x hx => by have := h3 x hx; omega⟩
    · simp only [List.mem_singleton] at ho
      subst ho
      refine ⟨by rw [List.length_replicate]; omega, by rw [List.length_replicate]; omega, fun x hx => ?_⟩
      have := List.eq_of_mem_replicate hx
      omega
  refine ⟨⟨by omega, by omega⟩, fun x hx => ?_⟩
  have := key.2.2 x hx
  simp only [H.badB, Bool.or_eq_true, decide_eq_true_eq, not_or]
  omega
theorem grown_edge (l : List S47) (a b : Int) (i j : Nat) : Edge (grown l a b) i j ↔ Edge l i j ∧ i ≤ l.length := by
  unfold Edge grown
  constructor
  · rintro ⟨h0, h1, o, ho, hm⟩
    by_cases hi : i - 1 < l.length
    · rw [List.getElem?_append_left hi] at ho
      exact ⟨⟨h0, h1, o, ho, hm⟩, by omega⟩
    · rw [List.getElem?_append_right (by omega)] at ho
      have : o ∈ [(⟨List.replicate a.toNat 0, List.replicate b.toNat 0⟩ : S47)] := List.mem_of_getElem? ho
      simp only [List.mem_singleton] at this
      subst this
      have := List.eq_of_mem_replicate hm
      omega
  · rintro ⟨⟨h0, h1, o, ho, hm⟩, hi⟩
    exact ⟨h0, h1, o, by rw [List.getElem?_append_left (by omega)]; exact ho, hm⟩
theorem edge_le {l : List S47} (h : H.rightB l = true) {i j : Nat} (e : Edge l i j) : j ≤ l.length := by
  obtain ⟨_, _, o, ho, hm⟩ := e
  have := (right_ref h (List.mem_of_getElem? ho)).2.2 _ hm
  omega
theorem new_alone (l : List S47) (a b : Int) : IsReach (grown l a b) [((l.length + 1 : Nat) : Int)] [((l.length + 1 : Nat) : Int)] := by
  refine ⟨by simp, by simp, fun x => ?_⟩
  rw [List.mem_singleton]
  constructor
  · rintro rfl
    exact ⟨l.length + 1, rfl, by omega, by rw [grown_len]; omega, Reached.root (by omega) (by rw [grown_len]; omega) (by simp)⟩
  · rintro ⟨i, rfl, h0, h1, hR⟩
    have := hR (fun i => i = l.length + 1) (fun i _ _ hm => by simp only [List.mem_singleton] at hm; omega) (fun i j e hi => by
      have := ((grown_edge l a b i j).1 e).2
      omega)
    omega
theorem as_before (l : List S47) (a b : Int) (h : H.rightB l = true) (roots : List Int) (hn : ((l.length + 1 : Nat) : Int) ∉ roots) (r : List Int) (hr : IsReach (grown l a b) roots r) (x : Int) : x ∈ r ↔ ∃ i : Nat, x = i ∧ 0 < i ∧ i ≤ l.length ∧ Reached l roots i := by
  refine (hr.mem x).trans ?_
  constructor
  · rintro ⟨i, rfl, h0, _, hR⟩
    have := hR (fun i => i ≤ l.length ∧ Reached l roots i) (fun i a0 a1 hm => by
      rw [grown_len] at a1
      have : i ≠ l.length + 1 := by rintro rfl; exact hn hm
      exact ⟨by omega, Reached.root a0 (by omega) hm⟩) (fun i j e hi => ⟨edge_le h ((grown_edge l a b i j).1 e).1, hi.2.step ((grown_edge l a b i j).1 e).1⟩)
    exact ⟨i, rfl, h0, this.1, this.2⟩
  · rintro ⟨i, rfl, h0, h1, hR⟩
    refine ⟨i, rfl, h0, by rw [grown_len]; omega, fun R a1 a2 => hR R (fun i b0 b1 hm => a1 i b0 (by rw [grown_len]; omega) hm) (fun i j e hi => a2 i j ((grown_edge l a b i j).2 ⟨e, ?_⟩) hi)⟩
    obtain ⟨_, _, o, ho, _⟩ := e
    have := (List.getElem?_eq_some_iff.1 ho).1
    omega
theorem HeapNew (l0 : List S47) (a0 a1 : Int) (l2 : List Int) (w0 : l0.length * 48 ≤ 140737488351232 ∧ ∀ x ∈ l0, (x.f0.length * 8 ≤ 140737488351232 ∧ ∀ y ∈ x.f0, (Lit.int .i64 y).wf = true) ∧ (x.f1.length * 8 ≤ 140737488351232 ∧ ∀ y ∈ x.f1, (Lit.int .i64 y).wf = true))
    (w1 : (Lit.int .u8 a0).wf = true ∧ (Lit.int .u8 a1).wf = true) (_w2 : l2.length * 8 ≤ 140737488351232 ∧ ∀ y ∈ l2, (Lit.int .i64 y).wf = true) : ∃ k, portolanlaw09_HeapNew.f k l0 a0 a1 l2 = some true := by
  refine Ev.rounds ?_
  have hz := sizes w0
  obtain ⟨b, hg, hg2⟩ := great l0 hz.1 hz.2
  simp only [portolanlaw09_HeapNew.f]
  refine Ev.bind alive (Ev.pos rfl (Ev.bind hg ?_))
  have skip : Ev (fun k => portolanlaw09_HeapNew.j0 k l2 true l0 a0 a1) true := by
    refine Ev.step (fun _ => rfl) ?_
    simp only [portolanlaw09_HeapNew.j0]
    exact Ev.pos (by trivial) (Ev.now _)
  cases b with
  | true => exact Ev.pos rfl skip
  | false =>
    refine Ev.neg (by decide) ?_
    have hsm := hg2 rfl
    have hs := small hsm
    by_cases h50 : (l2.length : Int) > 50
    · exact Ev.pos h50 skip
    refine Ev.neg h50 (Ev.bind (right l0 (by omega) (fun o ho => by have := hs.2 o ho; omega)) ?_)
    cases hR : H.rightB l0 with
    | false => exact skip
    | true =>
      have u0 := u8 w1.1
      have u1 := u8 w1.2
      have m0 : Int.tmod (wrap64 a0) 9 = a0 % 9 := by rw [wid (by omega) (by omega), Int.tmod_eq_emod_of_nonneg (by omega)]
      have m1 : Int.tmod (wrap64 a1) 9 = a1 % 9 := by rw [wid (by omega) (by omega), Int.tmod_eq_emod_of_nonneg (by omega)]
      refine Ev.step (fun _ => rfl) ?_
      simp only [portolanlaw09_HeapNew.j0]
      rw [m0, m1]
      refine Ev.neg (by decide) (Ev.bind (alloc l0 hs.1 _ _) ?_)
      have hB : allocB l0 (a0 % 9) (a1 % 9) = true := by
        simp only [allocB, hR, Bool.true_and, Bool.and_eq_true, decide_eq_true_eq]
        omega
      have hgr := grown_right l0 (a0 % 9) (a1 % 9) (by omega) (by omega) hR
      have hgl := grown_len l0 (a0 % 9) (a1 % 9)
      obtain ⟨r1, e1, i1⟩ := reach (grown l0 (a0 % 9) (a1 % 9)) (by omega) hgr [((l0.length + 1 : Nat) : Int)] (by simp)
      obtain rfl := i1.eq (new_alone l0 _ _)
      obtain ⟨r2, e2, i2⟩ := reach (grown l0 (a0 % 9) (a1 % 9)) (by omega) hgr l2 (by omega)
      obtain ⟨r3, e3, i3⟩ := reach l0 (by omega) hR l2 (by omega)
      simp only [allocS, hB, if_true]
      rw [E.w1 (show l0.length < 4611686018427387904 by omega)]
      refine Ev.pos (by trivial) (Ev.bind e1 (Ev.bind (ints _ _ (by simp)) ?_))
      refine Ev.step (fun _ => rfl) ?_
      simp only [portolanlaw09_HeapNew.j1]
      refine Ev.neg (by simp) ?_
      have loop : ∀ n i, i + n = l2.length → (∀ x ∈ l2.take i, x ≠ ((l0.length + 1 : Nat) : Int)) → Ev (fun k => portolanlaw09_HeapNew.l0 k l2 ((l0.length + 1 : Nat) : Int) (i : Int) l0 (grown l0 (a0 % 9) (a1 % 9))) true := by
        intro n
        induction n with
        | zero =>
          intro i hi hn
          rw [List.take_of_length_le (by omega)] at hn
          obtain rfl : r2 = r3 := rising_eq i2.rising i3.rising fun x => (as_before l0 _ _ hR l2 (fun hm => hn _ hm rfl) r2 i2 x).trans (i3.mem x).symm
          have := i3.short
          refine Ev.step (fun _ => rfl) ?_
          simp only [portolanlaw09_HeapNew.l0]
          refine Ev.neg (by omega) (Ev.bind e2 (Ev.bind e3 (Ev.bind (ints r2 r2 (by omega)) ?_)))
          rw [decide_eq_true rfl]
          exact Ev.now _
        | succ n ih =>
          intro i hi hn
          have h1 : i < l2.length := by omega
          refine Ev.step (fun _ => rfl) ?_
          simp only [portolanlaw09_HeapNew.l0]
          rw [rd_at h1, E.w1 (show i < 4611686018427387904 by omega)]
          refine Ev.pos (by omega) (Ev.pos (by omega) ?_)
          by_cases c : l2[i] = ((l0.length + 1 : Nat) : Int)
          · exact Ev.pos c (Ev.now _)
          · refine Ev.neg c (ih (i + 1) (by omega) (fun x hx => ?_))
            rw [List.take_succ_eq_append_getElem h1, List.mem_append, List.mem_singleton] at hx
            rcases hx with hx | rfl
            · exact hn x hx
            · exact c
      exact loop l2.length 0 (by omega) (by simp)
end Go.Proofs.Ytfnpaacoijfbfaa.Pure
