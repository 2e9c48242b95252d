/- What the marks reach. -/
import Derived.Test.YtfnpaacoijfbfaaPb
namespace Go.Proofs.Ytfnpaacoijfbfaa.Pure
open Go.RowKit Go.Proofs.YtfnpaacoijfbfaaW.PrintWords Go.Proofs.YtfnpaacoijfbfaaW.PrintLast Go.Proofs.YtfnpaacoijfbfaaW.PrintMore Go.Proofs.Ytfnpaacoijfbfaa.PX Go.Proofs.Ytfnpaacoijfbfaa.E Go.Proofs.Ytfnpaacoijfbfaa.PC
def put (m : List Bool) (x : Int) : List Bool := if 0 < x then m.set x.toNat true else m
def puts (m : List Bool) (r : List Int) : List Bool := r.foldl put m
theorem put_len (m : List Bool) (x : Int) : (put m x).length = m.length := by unfold put; split <;> simp
theorem puts_len : ∀ (r : List Int) (m : List Bool), (puts m r).length = m.length
  | [], _ => rfl
  | x :: r, m => (puts_len r (put m x)).trans (put_len m x)
theorem put_mk {m : List Bool} {x : Int} (h : x < m.length) (j : Nat) : mk (put m x) j ↔ mk m j ∨ (0 < j ∧ x = j) := by
  unfold put
  by_cases h0 : 0 < x
  · rw [if_pos h0, mk_set (by omega)]
    constructor
    · rintro (h | rfl)
      · exact .inl h
      · exact .inr (by omega)
    · rintro (h | ⟨h, rfl⟩)
      · exact .inl h
      · exact .inr (by omega)
  · rw [if_neg h0]
    constructor
    · exact .inl
    · rintro (h | h)
      · exact h
      · omega
theorem puts_mk : ∀ (r : List Int) (m : List Bool), (∀ x ∈ r, x < m.length) → ∀ j : Nat, mk (puts m r) j ↔ mk m j ∨ (0 < j ∧ (j : Int) ∈ r)
  | [], m, _, j => ⟨.inl, fun h => h.elim id (fun h => by cases h.2)⟩
  | x :: r, m, h, j => by
    have ih := puts_mk r (put m x) (fun y hy => by rw [put_len]; exact h y (List.mem_cons_of_mem _ hy)) j
    show mk (puts (put m x) r) j ↔ _
    rw [ih, put_mk (h x (List.mem_cons_self ..)), List.mem_cons]
    clear ih h
    constructor
    · rintro ((h | ⟨h, h1⟩) | ⟨h, h2⟩)
      · exact .inl h
      · exact .inr ⟨h, .inl h1.symm⟩
      · exact .inr ⟨h, .inr h2⟩
    · rintro (h | ⟨h, h1 | h2⟩)
      · exact .inl (.inl h)
      · exact .inl (.inr ⟨h, h1.symm⟩)
      · exact .inr ⟨h, h2⟩
def one (l : List S47) (m : List Bool) (i : Nat) : List Bool := if m.getD (i + 1) false = true then puts m (l.getD i z47).f0 else m
/-- One pass over all objects from the i-th on. -/
def pass (l : List S47) : Nat → Nat → List Bool → List Bool
  | 0, _, m => m
  | n + 1, i, m => pass l n (i + 1) (one l m i)
theorem one_len (l : List S47) (m : List Bool) (i : Nat) : (one l m i).length = m.length := by
  unfold one
  split
  · exact puts_len _ _
  · rfl
theorem pass_len (l : List S47) : ∀ n i m, (pass l n i m).length = m.length
  | 0, _, _ => rfl
  | n + 1, i, m => (pass_len l n (i + 1) _).trans (one_len l m i)
section
variable {l : List S47} (hr : H.rightB l = true)
include hr
theorem one_mk {m : List Bool} (hm : m.length = l.length + 1) {i : Nat} (hi : i < l.length) (j : Nat) : mk (one l m i) j ↔ mk m j ∨ (mk m (i + 1) ∧ Edge l (i + 1) j) := by
  unfold one
  rw [getD_at hi]
  have h8 := right_ref hr (List.getElem_mem hi)
  by_cases c : m.getD (i + 1) false = true
  · rw [if_pos c, puts_mk _ _ (fun x hx => by have := h8.2.2 x hx; omega)]
    constructor
    · rintro (h | ⟨h, h2⟩)
      · exact .inl h
      · exact .inr ⟨mk_getD.1 c, h, by omega, _, List.getElem?_eq_getElem hi, h2⟩
    · rintro (h | ⟨_, e0, _, o, eo, em⟩)
      · exact .inl h
      · rw [Nat.add_sub_cancel, List.getElem?_eq_getElem hi] at eo
        injection eo with eo
        subst eo
        exact .inr ⟨e0, em⟩
  · rw [if_neg c]
    constructor
    · exact .inl
    · rintro (h | ⟨h, _⟩)
      · exact h
      · exact absurd (mk_getD.2 h) c
theorem pass_infl : ∀ n i m, m.length = l.length + 1 → i + n = l.length → ∀ j, mk m j → mk (pass l n i m) j
  | 0, _, _, _, _, _, h => h
  | n + 1, i, m, hm, hi, j, h => pass_infl n (i + 1) _ ((one_len l m i).trans hm) (by omega) j ((one_mk hr hm (by omega) j).2 (.inl h))
theorem pass_prog : ∀ n i m, m.length = l.length + 1 → i + n = l.length → ∀ a b, i < a → a ≤ l.length → Edge l a b → mk m a → mk (pass l n i m) b
  | 0, i, m, _, hi, a, b, h1, h2, _, _ => by omega
  | n + 1, i, m, hm, hi, a, b, h1, h2, e, ha => by
    have hm' := (one_len l m i).trans hm
    show mk (pass l n (i + 1) (one l m i)) b
    by_cases h : a = i + 1
    · subst h
      exact pass_infl hr n (i + 1) _ hm' (by omega) b ((one_mk hr hm (by omega) b).2 (.inr ⟨ha, e⟩))
    · exact pass_prog n (i + 1) _ hm' (by omega) a b (by omega) h2 e ((one_mk hr hm (by omega) a).2 (.inl ha))
theorem pass_sound : ∀ n i m, m.length = l.length + 1 → i + n = l.length → ∀ R : Nat → Prop, (∀ i, mk m i → R i) → (∀ i j, Edge l i j → R i → R j) → ∀ j, mk (pass l n i m) j → R j
  | 0, _, _, _, _, _, h, _, j, hj => h j hj
  | n + 1, i, m, hm, hi, R, h, hE, j, hj => pass_sound n (i + 1) _ ((one_len l m i).trans hm) (by omega) R (fun x hx => ((one_mk hr hm (by omega) x).1 hx).elim (h x) (fun e => hE _ _ e.2 (h _ e.1))) hE j hj
theorem passes : Pass (Edge l) (l.length + 1) (pass l l.length 0) where
  len m h := (pass_len l _ _ m).trans h
  infl m h := pass_infl hr _ _ m h (by omega)
  prog m h i j e := pass_prog hr _ _ m h (by omega) i j e.2.1 (by
    obtain ⟨_, h0, o, eo, _⟩ := e
    have := (List.getElem?_eq_some_iff.1 eo).1
    omega) e
  sound m h := pass_sound hr _ _ m h (by omega)
end
/-- The marks of the roots. -/
def rooted (m : List Bool) (r : List Int) : List Bool := r.foldl (fun m x => if 0 ≤ x ∧ x < (m.length : Int) then m.set x.toNat true else m) m
theorem rooted_len : ∀ (r : List Int) (m : List Bool), (rooted m r).length = m.length
  | [], _ => rfl
  | x :: r, m => (rooted_len r _).trans (by
    show (if 0 ≤ x ∧ x < (m.length : Int) then m.set x.toNat true else m).length = m.length
    split <;> simp)
theorem rooted_mk : ∀ (r : List Int) (m : List Bool) (j : Nat), mk (rooted m r) j ↔ mk m j ∨ (j < m.length ∧ (j : Int) ∈ r)
  | [], m, j => ⟨.inl, fun h => h.elim id (fun h => by cases h.2)⟩
  | x :: r, m, j => by
    have ih := rooted_mk r (if 0 ≤ x ∧ x < (m.length : Int) then m.set x.toNat true else m) j
    have hl : (if 0 ≤ x ∧ x < (m.length : Int) then m.set x.toNat true else m).length = m.length := by split <;> simp
    show mk (rooted (if 0 ≤ x ∧ x < (m.length : Int) then m.set x.toNat true else m) r) j ↔ _
    rw [ih, hl, List.mem_cons]
    by_cases c : 0 ≤ x ∧ x < (m.length : Int)
    · rw [if_pos c, mk_set (by omega)]
      constructor
      · rintro ((h | rfl) | ⟨h, h2⟩)
        · exact .inl h
        · exact .inr ⟨by omega, .inl (by omega)⟩
        · exact .inr ⟨h, .inr h2⟩
      · rintro (h | ⟨h, h2 | h2⟩)
        · exact .inl (.inl h)
        · exact .inl (.inr (by omega))
        · exact .inr ⟨h, h2⟩
    · rw [if_neg c]
      constructor
      · rintro (h | ⟨h, h2⟩)
        · exact .inl h
        · exact .inr ⟨h, .inr h2⟩
      · rintro (h | ⟨h, h2 | h2⟩)
        · exact .inl h
        · omega
        · exact .inr ⟨h, h2⟩
/-- The marked places, rising. -/
def places (m : List Bool) : Nat → Nat → List Int
  | 0, _ => []
  | n + 1, i => if m.getD i false = true then (i : Int) :: places m n (i + 1) else places m n (i + 1)
theorem places_mem (m : List Bool) : ∀ n i (x : Int), x ∈ places m n i ↔ ∃ j : Nat, x = j ∧ i ≤ j ∧ j < i + n ∧ mk m j
  | 0, i, x => ⟨fun h => (by cases h), fun ⟨j, _, h1, h2, _⟩ => (by omega)⟩
  | n + 1, i, x => by
    have ih := places_mem m n (i + 1) x
    unfold places
    by_cases c : m.getD i false = true
    · rw [if_pos c, List.mem_cons, ih]
      constructor
      · rintro (rfl | ⟨j, rfl, h1, h2, h3⟩)
        · exact ⟨i, rfl, by omega, by omega, mk_getD.1 c⟩
        · exact ⟨j, rfl, by omega, by omega, h3⟩
      · rintro ⟨j, rfl, h1, h2, h3⟩
        by_cases e : j = i
        · exact .inl (by omega)
        · exact .inr ⟨j, rfl, by omega, by omega, h3⟩
    · rw [if_neg c, ih]
      constructor
      · rintro ⟨j, rfl, h1, h2, h3⟩
        exact ⟨j, rfl, by omega, by omega, h3⟩
      · rintro ⟨j, rfl, h1, h2, h3⟩
        have : j ≠ i := by rintro rfl; exact c (mk_getD.2 h3)
        exact ⟨j, rfl, by omega, by omega, h3⟩
theorem places_rising (m : List Bool) : ∀ n i, (places m n i).Pairwise (· < ·)
  | 0, i => List.Pairwise.nil
  | n + 1, i => by
    unfold places
    split
    · refine List.pairwise_cons.2 ⟨fun x hx => ?_, places_rising m n (i + 1)⟩
      obtain ⟨j, rfl, h1, _⟩ := (places_mem m n (i + 1) x).1 hx
      omega
    · exact places_rising m n (i + 1)
theorem places_len (m : List Bool) : ∀ n i, (places m n i).length ≤ n
  | 0, i => Nat.le_refl _
  | n + 1, i => by
    have := places_len m n (i + 1)
    unfold places
    split
    · rw [List.length_cons]; omega
    · omega
theorem ref_l4 (m : List Bool) (hm : m.length ≤ 400) : ∀ n i out, i + n = m.length → out.length ≤ i → Ev (fun k => portolanref09_Reach.l4 k m out (i : Int)) (out ++ places m n i)
  | 0, i, out, h, _ => by
    refine Ev.step (fun _ => rfl) ?_
    simp only [portolanref09_Reach.l4, places, List.append_nil]
    exact Ev.neg (by omega) (Ev.now _)
  | n + 1, i, out, h, ho => by
    have h1 : i < m.length := by omega
    refine Ev.step (fun _ => rfl) ?_
    simp only [portolanref09_Reach.l4, places]
    rw [w1 (by omega), show rdOf false m (i : Int) = m.getD i false from rfl]
    refine Ev.pos (by omega) (Ev.pos (by omega) ?_)
    by_cases c : m.getD i false = true
    · rw [if_pos c]
      refine Ev.pos c (Ev.pos (by omega) ?_)
      have := ref_l4 m hm n (i + 1) (out ++ [(i : Int)]) (by omega) (by simp; omega)
      rw [List.append_assoc] at this
      exact this
    · rw [if_neg c]
      exact Ev.neg c (ref_l4 m hm n (i + 1) out (by omega) (by omega))
section
variable (l : List S47) (hl : l.length ≤ 301) (hr : H.rightB l = true)
include hl hr
theorem ref_l3 (t i : Nat) (r : List Int) (hi : i < l.length) : ∀ n j m, j + n = l[i].f0.length → m.length = l.length + 1 → mk m (i + 1) → Ev (fun k => portolanref09_Reach.l2 k (puts m (l[i].f0.drop j)) (t : Int) ((i + 1 : Nat) : Int) l) r → Ev (fun k => portolanref09_Reach.l3 k m (t : Int) (i : Int) (j : Int) l) r
  | 0, j, m, h, hm, hk, hn => by
    have h8 := right_ref hr (List.getElem_mem hi)
    rw [List.drop_of_length_le (by omega)] at hn
    refine Ev.step (fun _ => rfl) ?_
    simp only [portolanref09_Reach.l3]
    rw [rdT_at hi]
    refine Ev.pos (by omega) (Ev.pos (by omega) (Ev.neg (by omega) (Ev.step (fun _ => rfl) ?_)))
    simp only [portolanref09_Reach.j4]
    rw [w1 (show i < 4611686018427387904 by omega)]
    exact Ev.neg (by decide) hn
  | n + 1, j, m, h, hm, hk, hn => by
    have h8 := right_ref hr (List.getElem_mem hi)
    have h1 : j < l[i].f0.length := by omega
    have hx := h8.2.2 _ (List.getElem_mem h1)
    rw [List.drop_eq_getElem_cons h1] at hn
    have hn' : Ev (fun k => portolanref09_Reach.l2 k (puts (put m l[i].f0[j]) (l[i].f0.drop (j + 1))) (t : Int) ((i + 1 : Nat) : Int) l) r := hn
    have hm' : (put m l[i].f0[j]).length = l.length + 1 := (put_len _ _).trans hm
    have hk' : mk (put m l[i].f0[j]) (i + 1) := (put_mk (by omega) _).2 (.inl hk)
    have ih := ref_l3 t i r hi n (j + 1) _ (by omega) hm' hk' hn'
    refine Ev.step (fun _ => rfl) ?_
    simp only [portolanref09_Reach.l3]
    rw [rdT_at hi, w1 (show i < 4611686018427387904 by omega), show rdOf false m ((i + 1 : Nat) : Int) = true from mk_getD.2 hk]
    refine Ev.pos (by omega) (Ev.pos (by omega) (Ev.pos (by omega) (Ev.pos (by omega) (Ev.pos (by omega) (Ev.step (fun _ => rfl) ?_)))))
    simp only [portolanref09_Reach.j4]
    rw [rdT_at hi, w1 (show j < 4611686018427387904 by omega), rd_at h1]
    refine Ev.pos (by trivial) (Ev.pos (by omega) (Ev.pos (by omega) (Ev.pos (by omega) (Ev.pos (by omega) ?_))))
    unfold put at ih
    by_cases c : 0 < l[i].f0[j]
    · rw [if_pos c] at ih
      exact Ev.pos c (Ev.pos (by omega) (Ev.pos (by omega) ih))
    · rw [if_neg c] at ih
      exact Ev.neg c ih
theorem ref_l2 (t : Nat) (ht : t ≤ 400) (r : List Int) : ∀ n i m, i + n = l.length → m.length = l.length + 1 → Ev (fun k => portolanref09_Reach.l1 k (pass l n i m) ((t + 1 : Nat) : Int) l) r → Ev (fun k => portolanref09_Reach.l2 k m (t : Int) (i : Int) l) r
  | 0, i, m, h, hm, hn => by
    refine Ev.step (fun _ => rfl) ?_
    simp only [portolanref09_Reach.l2]
    rw [w1 (show t < 4611686018427387904 by omega)]
    exact Ev.neg (by omega) hn
  | n + 1, i, m, h, hm, hn => by
    have hi : i < l.length := by omega
    have ih := ref_l2 t ht r n (i + 1) (one l m i) (by omega) ((one_len l m i).trans hm) hn
    refine Ev.step (fun _ => rfl) ?_
    simp only [portolanref09_Reach.l2]
    refine Ev.pos (by omega) ?_
    unfold one at ih
    by_cases c : m.getD (i + 1) false = true
    · rw [if_pos c, getD_at hi] at ih
      exact ref_l3 l hl hr t i r hi l[i].f0.length 0 m (by omega) hm (mk_getD.1 c) ih
    · rw [if_neg c] at ih
      have h8 := right_ref hr (List.getElem_mem hi)
      have hj : Ev (fun k => portolanref09_Reach.j4 k m (t : Int) (i : Int) 0 false l) r := by
        refine Ev.step (fun _ => rfl) ?_
        simp only [portolanref09_Reach.j4]
        rw [w1 (show i < 4611686018427387904 by omega)]
        exact Ev.neg (by decide) ih
      refine Ev.step (fun _ => rfl) ?_
      simp only [portolanref09_Reach.l3]
      rw [rdT_at hi, w1 (show i < 4611686018427387904 by omega), show rdOf false m ((i + 1 : Nat) : Int) = false from Bool.not_eq_true _ ▸ c]
      refine Ev.pos (by omega) (Ev.pos (by omega) ?_)
      by_cases c2 : (0 : Int) < (l[i].f0.length : Int)
      · exact Ev.pos c2 (Ev.pos (by omega) (Ev.pos (by omega) hj))
      · exact Ev.neg c2 hj
theorem ref_l1 : ∀ n t m, t + n = l.length → m.length = l.length + 1 → Ev (fun k => portolanref09_Reach.l1 k m (t : Int) l) (places (iter (pass l l.length 0) n m) l.length 1)
  | 0, t, m, h, hm => by
    refine Ev.step (fun _ => rfl) ?_
    simp only [portolanref09_Reach.l1]
    refine Ev.neg (by omega) ?_
    exact ref_l4 m (by omega) l.length 1 [] (by omega) (by simp)
  | n + 1, t, m, h, hm => by
    refine Ev.step (fun _ => rfl) ?_
    simp only [portolanref09_Reach.l1]
    refine Ev.pos (by omega) ?_
    exact ref_l2 l hl hr t (by omega) _ l.length 0 m (by omega) hm (ref_l1 n (t + 1) _ (by omega) ((pass_len l _ _ m).trans hm))
theorem ref_l0 (roots : List Int) (h50 : roots.length ≤ 50) : ∀ n i m, i + n = roots.length → m.length = l.length + 1 → Ev (fun k => portolanref09_Reach.l0 k roots m (i : Int) l) (places (iter (pass l l.length 0) l.length ((rooted m (roots.drop i)).set 0 false)) l.length 1)
  | 0, i, m, h, hm => by
    refine Ev.step (fun _ => rfl) ?_
    simp only [portolanref09_Reach.l0]
    refine Ev.neg (by omega) (Ev.pos (by omega) ?_)
    rw [List.drop_of_length_le (by omega)]
    exact ref_l1 l hl hr l.length 0 _ (by omega) (by simp [hm])
  | n + 1, i, m, h, hm => by
    have h1 : i < roots.length := by omega
    refine Ev.step (fun _ => rfl) ?_
    simp only [portolanref09_Reach.l0]
    rw [rd_at h1, w1 (by omega), List.drop_eq_getElem_cons h1]
    have ih := ref_l0 roots h50 n (i + 1) (if 0 ≤ roots[i] ∧ roots[i] < (m.length : Int) then m.set roots[i].toNat true else m) (by omega) (by split <;> simp [hm])
    have e : rooted m (roots[i] :: roots.drop (i + 1)) = rooted (if 0 ≤ roots[i] ∧ roots[i] < (m.length : Int) then m.set roots[i].toNat true else m) (roots.drop (i + 1)) := rfl
    rw [e]
    refine Ev.pos (by omega) (Ev.pos (by omega) ?_)
    by_cases c1 : roots[i] ≥ 0
    · refine Ev.pos c1 ?_
      by_cases c2 : roots[i] < (m.length : Int)
      · rw [if_pos ⟨c1, c2⟩] at ih ⊢
        exact Ev.pos c2 (Ev.pos c1 ih)
      · rw [if_neg (fun h => c2 h.2)] at ih ⊢
        exact Ev.neg c2 ih
    · rw [if_neg (fun h => c1 h.1)] at ih ⊢
      exact Ev.neg c1 ih
end
theorem mk_unset {m : List Bool} {j : Nat} : mk (m.set 0 false) j ↔ mk m j ∧ 0 < j := by
  unfold mk
  cases j with
  | zero => cases m <;> simp
  | succ j => rw [List.getElem?_set_ne (by omega)]; simp
theorem reach_ref (l : List S47) (hl : l.length ≤ 301) (hs : ∀ o ∈ l, o.f0.length < 4611686018427387904) (hr : H.rightB l = true) (roots : List Int) (h50 : roots.length ≤ 50) : ∃ r, Ev (fun k => portolanref09_Reach.f k l roots) r ∧ IsReach l roots r := by
  refine ⟨places (iter (pass l l.length 0) l.length ((rooted (List.replicate (l.length + 1) false) (roots.drop 0)).set 0 false)) l.length 1, ?_, ?_⟩
  · simp only [portolanref09_Reach.f]
    have hR := right l (by omega) hs
    rw [hr] at hR
    refine Ev.bind hR (Ev.pos rfl ?_)
    have e : (wrap64 ((l.length : Int) + 1)).toNat = l.length + 1 := by unfold wrap64; omega
    have e0 : 0 ≤ wrap64 ((l.length : Int) + 1) := by unfold wrap64; omega
    refine Ev.pos e0 (Ev.pos (by omega) ?_)
    rw [e]
    exact ref_l0 l hl hr roots h50 roots.length 0 (List.replicate (l.length + 1) false) (by omega) (by simp)
  · have hlen : ((rooted (List.replicate (l.length + 1) false) (roots.drop 0)).set 0 false).length = l.length + 1 := by
      rw [List.length_set, rooted_len, List.length_replicate]
    refine ⟨places_rising _ _ _, Nat.le_succ_of_le (places_len _ _ _), fun x => ?_⟩
    rw [places_mem]
    constructor
    · rintro ⟨j, rfl, h1, h2, h3⟩
      refine ⟨j, rfl, by omega, by omega, fun R hR hE => ?_⟩
      refine iter_sound (passes hr) _ _ hlen R ?_ hE j h3
      intro i hi
      obtain ⟨hi, hi0⟩ := mk_unset.1 hi
      rcases (rooted_mk _ _ _).1 hi with hi | ⟨hi, hm⟩
      · exact (mk_rep hi).elim
      · rw [List.length_replicate] at hi
        exact hR i hi0 (by omega) hm
    · rintro ⟨i, rfl, h0, h1, hR⟩
      refine ⟨i, rfl, by omega, by omega, ?_⟩
      refine (iter_from1 (passes hr) hlen (Nat.le_refl _) (j := 0) (by omega) (fun h0 => ?_) i).2 (hR _ ?_ ?_)
      · exact Nat.lt_irrefl 0 (h0 (fun i => 0 < i) (fun i hi => (mk_unset.1 hi).2) (fun i j e _ => e.1))
      · intro a a0 a1 am
        exact From.root (mk_unset.2 ⟨(rooted_mk _ _ _).2 (.inr ⟨by rw [List.length_replicate]; omega, am⟩), a0⟩)
      · exact fun a b e h => h.step e
end Go.Proofs.Ytfnpaacoijfbfaa.Pure
