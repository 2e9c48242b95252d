/- Plain lemmas on marks and closures: no program. -/
namespace Go.Proofs.Ytcknmcfomkbenaa.PC
def mk (m : List Bool) (i : Nat) : Prop := m[i]? = some true
theorem mk_set {m : List Bool} {i j : Nat} (hi : i < m.length) : mk (m.set i true) j ↔ mk m j ∨ j = i := by
  unfold mk
  by_cases h : i = j
  · subst h
    rw [List.getElem?_set_self hi]
    simp
  · rw [List.getElem?_set_ne h]
    exact ⟨.inl, fun h2 => h2.elim id (fun e => absurd e.symm h)⟩
theorem mk_lt {m : List Bool} {i : Nat} (h : mk m i) : i < m.length := (List.getElem?_eq_some_iff.1 h).1
def Closed (E : Nat → Nat → Prop) (m : List Bool) : Prop := ∀ i j, E i j → mk m i → mk m j
def From (E : Nat → Nat → Prop) (m : List Bool) (x : Nat) : Prop := ∀ R : Nat → Prop, (∀ i, mk m i → R i) → (∀ i j, E i j → R i → R j) → R x
def cnt (m : List Bool) : Nat := m.countP id
theorem cnt_le (m : List Bool) : cnt m ≤ m.length := List.countP_le_length
theorem cnt_mono : ∀ {m m' : List Bool}, m'.length = m.length → (∀ i, mk m i → mk m' i) → cnt m ≤ cnt m'
  | [], [], _, _ => Nat.le_refl _
  | a :: m, b :: m', hl, h => by
    have ih := cnt_mono (m := m) (m' := m') (by simpa using hl) (fun i hi => by simpa [mk] using h (i + 1) (by simpa [mk] using hi))
    have h0 : a = true → b = true := fun ha => by simpa [mk] using h 0 (by simp [mk, ha])
    unfold cnt at *
    rw [List.countP_cons, List.countP_cons]
    cases a <;> cases b <;> simp_all <;> omega
  | [], _ :: _, hl, _ => by simp at hl
  | _ :: _, [], hl, _ => by simp at hl
theorem cnt_lt : ∀ {m m' : List Bool}, m'.length = m.length → (∀ i, mk m i → mk m' i) → (∃ j, mk m' j ∧ ¬ mk m j) → cnt m < cnt m'
  | [], [], _, _, ⟨j, hj, _⟩ => by simp [mk] at hj
  | a :: m, b :: m', hl, h, ⟨j, hj, hn⟩ => by
    have hl' : m'.length = m.length := by simpa using hl
    have hm : ∀ i, mk m i → mk m' i := fun i hi => by simpa [mk] using h (i + 1) (by simpa [mk] using hi)
    have h0 : a = true → b = true := fun ha => by simpa [mk] using h 0 (by simp [mk, ha])
    cases j with
    | zero =>
      have hb : b = true := by simpa [mk] using hj
      have ha : a = false := by simpa [mk] using hn
      have := cnt_mono hl' hm
      unfold cnt at *
      rw [List.countP_cons, List.countP_cons]
      subst hb; subst ha
      simp
      omega
    | succ j =>
      have ih := cnt_lt hl' hm ⟨j, by simpa [mk] using hj, by simpa [mk] using hn⟩
      unfold cnt at *
      rw [List.countP_cons, List.countP_cons]
      cases a <;> cases b <;> simp_all <;> omega
  | [], _ :: _, hl, _, _ => by simp at hl
  | _ :: _, [], hl, _, _ => by simp at hl
theorem cnt_pos {m : List Bool} {i : Nat} (h : mk m i) : 0 < cnt m := by
  unfold cnt
  rw [List.countP_pos_iff]
  exact ⟨true, List.mem_of_getElem? h, rfl⟩
structure Pass (E : Nat → Nat → Prop) (n : Nat) (p : List Bool → List Bool) : Prop where
  len : ∀ m, m.length = n → (p m).length = n
  infl : ∀ m, m.length = n → ∀ i, mk m i → mk (p m) i
  prog : ∀ m, m.length = n → ∀ i j, E i j → mk m i → mk (p m) j
  sound : ∀ m, m.length = n → ∀ R : Nat → Prop, (∀ i, mk m i → R i) → (∀ i j, E i j → R i → R j) → ∀ i, mk (p m) i → R i
def iter (p : List Bool → List Bool) : Nat → List Bool → List Bool
  | 0, m => m
  | k + 1, m => iter p k (p m)
section
variable {E : Nat → Nat → Prop} {n : Nat} {p : List Bool → List Bool} (hp : Pass E n p)
include hp
theorem iter_len : ∀ k m, m.length = n → (iter p k m).length = n
  | 0, _, h => h
  | k + 1, m, h => iter_len k (p m) (hp.len m h)
theorem iter_infl : ∀ k m, m.length = n → ∀ i, mk m i → mk (iter p k m) i
  | 0, _, _, _, hi => hi
  | k + 1, m, h, i, hi => iter_infl k (p m) (hp.len m h) i (hp.infl m h i hi)
theorem iter_sound : ∀ k m, m.length = n → ∀ R : Nat → Prop, (∀ i, mk m i → R i) → (∀ i j, E i j → R i → R j) → ∀ i, mk (iter p k m) i → R i
  | 0, _, _, _, h, _, i, hi => h i hi
  | k + 1, m, hl, R, h, hE, i, hi => iter_sound k (p m) (hp.len m hl) R (hp.sound m hl R h hE) hE i hi
theorem closed_pass {m : List Bool} (hl : m.length = n) (hc : Closed E m) : Closed E (p m) := fun i j hij hi => hp.infl m hl j (hc i j hij (hp.sound m hl (mk m) (fun _ h => h) (fun i j => hc i j) i hi))
theorem iter_closed_or : ∀ k m, m.length = n → Closed E (iter p k m) ∨ cnt m + k ≤ cnt (iter p k m)
  | 0, m, _ => .inr (by simp [iter])
  | k + 1, m, hl => by
    by_cases hc : Closed E m
    · left
      have : ∀ k m, m.length = n → Closed E m → Closed E (iter p k m) := by
        intro k
        induction k with
        | zero => intro m _ h; exact h
        | succ k ih => intro m hl h; exact ih (p m) (hp.len m hl) (closed_pass hp hl h)
      exact this (k + 1) m hl hc
    · rcases iter_closed_or k (p m) (hp.len m hl) with h | h
      · exact .inl h
      · right
        have hlt : cnt m < cnt (p m) := by
          refine cnt_lt ((hp.len m hl).trans hl.symm) (hp.infl m hl) ?_
          apply Classical.byContradiction
          intro hno
          refine hc (fun i j hij hi => ?_)
          apply Classical.byContradiction
          intro hj
          exact hno ⟨j, hp.prog m hl i j hij hi, hj⟩
        show cnt m + (k + 1) ≤ cnt (iter p k (p m))
        omega
theorem iter_closed {m : List Bool} (hl : m.length = n) {k : Nat} (hk : n ≤ k) : Closed E (iter p k m) := by
  rcases iter_closed_or hp k m hl with h | h
  · exact h
  · by_cases h0 : cnt m = 0
    · have hno : ∀ i, ¬ mk m i := fun i hi => by have := cnt_pos hi; omega
      intro i j _ hi
      exact (iter_sound hp k m hl (fun _ => False) (fun i hi => hno i hi) (fun _ _ _ h => h) i hi).elim
    · have := cnt_le (iter p k m)
      rw [iter_len hp k m hl] at this
      omega
theorem iter_from {m : List Bool} (hl : m.length = n) {k : Nat} (hk : n ≤ k) (x : Nat) : mk (iter p k m) x ↔ From E m x :=
  ⟨fun h R hR hE => iter_sound hp k m hl R hR hE x h, fun h => h (mk (iter p k m)) (fun i hi => iter_infl hp k m hl i hi) (fun i j hij hi => iter_closed hp hl hk i j hij hi)⟩
end
theorem From.root {E : Nat → Nat → Prop} {m : List Bool} {x : Nat} (h : mk m x) : From E m x := fun _ hR _ => hR x h
theorem From.step {E : Nat → Nat → Prop} {m : List Bool} {x y : Nat} (h : From E m x) (e : E x y) : From E m y := fun R hR hE => hE x y e (h R hR hE)
end Go.Proofs.Ytcknmcfomkbenaa.PC
