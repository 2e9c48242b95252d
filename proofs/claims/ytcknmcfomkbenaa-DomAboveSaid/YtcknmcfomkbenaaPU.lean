/- What the reference reaches without a block. -/
import Derived.Test.YtcknmcfomkbenaaPFx15
import Derived.Test.YtcknmcfomkbenaaPT
namespace Go.Proofs.Ytcknmcfomkbenaa.Pure
open Go.RowKit Go.Proofs.YtcknmcfomkbenaaW.PrintWords Go.Proofs.YtcknmcfomkbenaaW.PrintLast Go.Proofs.YtcknmcfomkbenaaW.PrintMore Go.Proofs.Ytcknmcfomkbenaa.PF Go.Proofs.Ytcknmcfomkbenaa.E Go.Proofs.Ytcknmcfomkbenaa.D
set_option linter.unusedVariables false
inductive PathW (nx : Int → List Int) (n wo a : Int) : Int → Prop
  | refl : PathW nx n wo a a
  | step {b c : Int} : PathW nx n wo a b → c ∈ nx b → 0 ≤ c → c < n → c ≠ wo → PathW nx n wo a c
theorem pathW_none {nx : Int → List Int} {n a x : Int} : PathW nx n (-1) a x ↔ Path nx n a x := by
  constructor
  · intro h
    induction h with
    | refl => exact .refl
    | step _ h2 h3 h4 _ ih => exact .step ih h2 h3 h4
  · intro h
    induction h with
    | refl => exact .refl
    | step _ h2 h3 h4 ih => exact .step ih h2 h3 h4 (by omega)
def setW (wo : Int) (m : List Bool) (c : Int) : List Bool := if 0 ≤ c ∧ c < (m.length : Int) ∧ c ≠ wo then m.set c.toNat true else m
theorem setW_len {wo : Int} {m : List Bool} {c : Int} : (setW wo m c).length = m.length := by
  unfold setW
  split <;> simp
theorem setW_M {wo : Int} {m : List Bool} {c x : Int} : M (setW wo m c) x ↔ M m x ∨ (x = c ∧ 0 ≤ c ∧ c < (m.length : Int) ∧ c ≠ wo) := by
  unfold setW
  split
  · rename_i h
    rw [M_set h.1 h.2.1]
    exact ⟨fun h2 => h2.imp_right (fun e => ⟨e, h⟩), fun h2 => h2.imp_right (fun e => e.1)⟩
  · rename_i h
    exact ⟨.inl, fun h2 => h2.resolve_right (fun e => h e.2)⟩
theorem foldW_len {wo : Int} : ∀ (l : List Int) (m : List Bool), (l.foldl (setW wo) m).length = m.length
  | [], _ => rfl
  | c :: l, m => by rw [List.foldl_cons, foldW_len l, setW_len]
theorem foldW_M {wo x : Int} : ∀ (l : List Int) (m : List Bool), M (l.foldl (setW wo) m) x ↔ M m x ∨ (x ∈ l ∧ 0 ≤ x ∧ x < (m.length : Int) ∧ x ≠ wo)
  | [], m => by simp
  | c :: l, m => by
    rw [List.foldl_cons, foldW_M l, setW_M, setW_len, List.mem_cons]
    constructor
    · rintro ((h | ⟨rfl, h⟩) | ⟨h1, h2⟩)
      · exact .inl h
      · exact .inr ⟨.inl rfl, h⟩
      · exact .inr ⟨.inr h1, h2⟩
    · rintro (h | ⟨rfl | h1, h2⟩)
      · exact .inl (.inl h)
      · exact .inl (.inr ⟨rfl, h2⟩)
      · exact .inr ⟨h1, h2⟩
def stepW (nx : Int → List Int) (wo : Int) (m : List Bool) (i : Nat) : List Bool := if rdOf false m (i : Int) = true then (nx (i : Int)).foldl (setW wo) m else m
theorem stepW_len {nx : Int → List Int} {wo : Int} {m : List Bool} {i : Nat} : (stepW nx wo m i).length = m.length := by
  unfold stepW
  split
  · exact foldW_len _ _
  · rfl
theorem stepW_M {nx : Int → List Int} {wo x : Int} {m : List Bool} {i : Nat} : M (stepW nx wo m i) x ↔ M m x ∨ (M m (i : Int) ∧ x ∈ nx (i : Int) ∧ 0 ≤ x ∧ x < (m.length : Int) ∧ x ≠ wo) := by
  unfold stepW
  split
  · rename_i h
    rw [foldW_M]
    have := (M_rd (by omega)).1 h
    exact ⟨fun h2 => h2.imp_right (fun h3 => ⟨this, h3⟩), fun h2 => h2.imp_right (fun h3 => h3.2)⟩
  · rename_i h
    exact ⟨.inl, fun h2 => h2.resolve_right (fun h3 => h ((M_rd (by omega)).2 h3.1))⟩
theorem passL_len {nx : Int → List Int} {wo : Int} : ∀ (l : List Nat) (m : List Bool), (l.foldl (stepW nx wo) m).length = m.length
  | [], _ => rfl
  | i :: l, m => by rw [List.foldl_cons, passL_len l, stepW_len]
theorem passL_infl {nx : Int → List Int} {wo x : Int} : ∀ (l : List Nat) (m : List Bool), M m x → M (l.foldl (stepW nx wo) m) x
  | [], _, h => h
  | i :: l, m, h => passL_infl l _ (stepW_M.2 (.inl h))
theorem passL_sound {nx : Int → List Int} {wo : Int} (R : Int → Prop) (n : Int) (hR : ∀ i j : Int, j ∈ nx i → 0 ≤ j → j < n → j ≠ wo → R i → R j) : ∀ (l : List Nat) (m : List Bool), (m.length : Int) = n → (∀ x, M m x → R x) → ∀ x, M (l.foldl (stepW nx wo) m) x → R x
  | [], _, _, h, x, hx => h x hx
  | i :: l, m, hm, h, x, hx => by
    refine passL_sound R n hR l _ (by rw [stepW_len]; exact hm) (fun y hy => ?_) x hx
    rcases stepW_M.1 hy with h2 | ⟨h2, h3, h4, h5, h6⟩
    · exact h y h2
    · exact hR _ y h3 h4 (by omega) h6 (h _ h2)
open Go.Proofs.Ytcknmcfomkbenaa.PC in
theorem mk_M {m : List Bool} {i : Nat} : mk m i ↔ M m (i : Int) := by
  unfold mk M
  rw [Int.toNat_natCast]
  exact ⟨fun h => ⟨by omega, h⟩, fun h => h.2⟩
def passW (nx : Int → List Int) (wo : Int) (n : Nat) (m : List Bool) : List Bool := (List.range n).foldl (stepW nx wo) m
open Go.Proofs.Ytcknmcfomkbenaa.PC in
theorem passW_pass (nx : Int → List Int) (wo : Int) (n : Nat) : Pass (fun i j : Nat => (j : Int) ∈ nx (i : Int) ∧ j < n ∧ (j : Int) ≠ wo) n (passW nx wo n) := by
  refine ⟨fun m h => (passL_len _ m).trans h, fun m _ i h => mk_M.2 (passL_infl _ m (mk_M.1 h)), fun m hm i j hE hi => ?_, fun m hm R h0 hR i hi => ?_⟩
  · have hin : i < n := by have := mk_lt hi; omega
    obtain ⟨u, v, e⟩ := List.append_of_mem (List.mem_range.2 hin)
    unfold passW
    rw [e, List.foldl_append, List.foldl_cons, mk_M]
    refine passL_infl v _ (stepW_M.2 (.inr ⟨passL_infl u m (mk_M.1 hi), hE.1, by omega, ?_, hE.2.2⟩))
    rw [passL_len, hm]
    have := hE.2.1
    omega
  · have := passL_sound (nx := nx) (wo := wo) (fun x => 0 ≤ x ∧ R x.toNat) n (fun i j hj j0 j1 j2 hi => ⟨j0, hR i.toNat j.toNat ⟨by rw [Int.toNat_of_nonneg hi.1, Int.toNat_of_nonneg j0]; exact hj, by omega, by rw [Int.toNat_of_nonneg j0]; exact j2⟩ hi.2⟩) (List.range n) m (by rw [hm]) (fun x hx => ⟨hx.1, h0 _ hx.2⟩) (i : Int) (mk_M.1 hi)
    have h3 := this.2
    rwa [Int.toNat_natCast] at h3
def withinL (nx : Int → List Int) (n : Nat) (a wo : Int) : List Bool := if a = wo ∨ a ≥ (n : Int) then List.replicate n false else PC.iter (passW nx wo n) n ((List.replicate n false).set a.toNat true)
open Go.Proofs.Ytcknmcfomkbenaa.PC in
theorem withinL_M (nx : Int → List Int) (n : Nat) (a wo : Int) (a0 : 0 ≤ a) (x : Int) : M (withinL nx n a wo) x ↔ a ≠ wo ∧ a < (n : Int) ∧ PathW nx n wo a x := by
  unfold withinL
  by_cases h : a = wo ∨ a ≥ (n : Int)
  · rw [if_pos h]
    exact ⟨fun h2 => absurd h2 M_rep, fun h2 => by omega⟩
  rw [if_neg h]
  have hs : ∀ y, M ((List.replicate n false).set a.toNat true) y ↔ y = a := by
    intro y
    rw [M_set a0 (by simp only [List.length_replicate]; omega)]
    exact ⟨fun h2 => h2.resolve_left M_rep, .inr⟩
  have hl : ((List.replicate n false).set a.toNat true).length = n := by simp
  have key := iter_from (passW_pass nx wo n) hl (Nat.le_refl n)
  constructor
  · intro hx
    refine ⟨by omega, by omega, ?_⟩
    have h2 : mk (iter (passW nx wo n) n ((List.replicate n false).set a.toNat true)) x.toNat := by
      rw [mk_M, Int.toNat_of_nonneg hx.1]
      exact hx
    have h3 := (key x.toNat).1 h2 (fun i => PathW nx n wo a (i : Int)) (fun i hi => ?_) (fun i j hE hi => .step hi hE.1 (by omega) (by have := hE.2.1; omega) hE.2.2)
    · rwa [Int.toNat_of_nonneg hx.1] at h3
    · rw [(hs _).1 (mk_M.1 hi)]
      exact .refl
  · rintro ⟨_, _, hp⟩
    have h2 : 0 ≤ x ∧ From (fun i j : Nat => (j : Int) ∈ nx (i : Int) ∧ j < n ∧ (j : Int) ≠ wo) ((List.replicate n false).set a.toNat true) x.toNat := by
      induction hp with
      | refl => exact ⟨a0, From.root (mk_M.2 ((hs _).2 (by omega)))⟩
      | step _ hc c0 c1 c2 ih => exact ⟨c0, ih.2.step ⟨by rw [Int.toNat_of_nonneg ih.1, Int.toNat_of_nonneg c0]; exact hc, by omega, by rw [Int.toNat_of_nonneg c0]; exact c2⟩⟩
    have h3 := mk_M.1 ((key x.toNat).2 h2.2)
    rwa [Int.toNat_of_nonneg h2.1] at h3
open Go.Proofs.Ytcknmcfomkbenaa.PC in
theorem withinL_len (nx : Int → List Int) (n : Nat) (a wo : Int) : (withinL nx n a wo).length = n := by
  unfold withinL
  split
  · simp
  · exact iter_len (passW_pass nx wo n) n _ (by simp)
theorem within_l2 (f : S30) (w : W30 f) (wo : Int) (t i : Nat) (hi : i < f.f4.length) {Q : List Bool → Prop} : ∀ (d j : Nat) (m : List Bool), (nxt f.f4 (i : Int)).length - j ≤ d → m.length = f.f4.length → rdOf false m (i : Int) = true →
    Gives (fun k => portolanref05_Within.l1 k wo (((nxt f.f4 (i : Int)).drop j).foldl (setW wo) m) (t : Int) ((i + 1 : Nat) : Int) f.f0 f.f1 f.f2 f.f3 f.f4) Q → Gives (fun k => portolanref05_Within.l2 k wo m (t : Int) (i : Int) (nxt f.f4 (i : Int)) (j : Int) f.f0 f.f1 f.f2 f.f3 f.f4) Q := by
  have h4 := w.n4
  have hx := nxt_len f.f4 (i : Int)
  intro d
  induction d with
  | zero =>
    intro j m hj hm hr H
    rw [List.drop_of_length_le (by omega), List.foldl_nil] at H
    refine Gives.step (fun _ => rfl) ?_
    simp only [portolanref05_Within.l2]
    refine Gives.neg (by omega) ?_
    refine Gives.step (fun _ => rfl) ?_
    simp only [portolanref05_Within.j4]
    refine Gives.neg (by simp) ?_
    rw [w1 (by omega)]
    exact H
  | succ d ih =>
    intro j m hj hm hr H
    by_cases hlt : j < (nxt f.f4 (i : Int)).length
    · rw [List.drop_eq_getElem_cons hlt, List.foldl_cons] at H
      refine Gives.step (fun _ => rfl) ?_
      simp only [portolanref05_Within.l2]
      refine Gives.pos (by omega) (Gives.pos (by omega) (Gives.pos (by omega) ?_))
      refine Gives.step (fun _ => rfl) ?_
      simp only [portolanref05_Within.j4]
      refine Gives.pos hr (Gives.pos (by omega) (Gives.pos (by omega) ?_))
      rw [rd_at hlt, w1 (by omega)]
      have skip : setW wo m (nxt f.f4 (i : Int))[j] = m → Gives (fun k => portolanref05_Within.l2 k wo m (t : Int) (i : Int) (nxt f.f4 (i : Int)) ((j + 1 : Nat) : Int) f.f0 f.f1 f.f2 f.f3 f.f4) Q := by
        intro e
        rw [e] at H
        exact ih (j + 1) m (by omega) hm hr H
      refine Gives.ite (fun h1 => Gives.ite (fun h2 => Gives.ite (fun h3 => skip ?_) (fun h3 => Gives.pos (by omega) ?_)) (fun h2 => skip ?_)) (fun h1 => skip ?_)
      · unfold setW; rw [if_neg (by omega)]
      · have e : setW wo m (nxt f.f4 (i : Int))[j] = m.set (nxt f.f4 (i : Int))[j].toNat true := by unfold setW; rw [if_pos ⟨h1, h2, h3⟩]
        rw [e] at H
        refine ih (j + 1) _ (by omega) (by simpa using hm) ?_ H
        rw [M_rd (by omega)] at hr ⊢
        exact (M_set h1 h2).2 (.inl hr)
      · unfold setW; rw [if_neg (by omega)]
      · unfold setW; rw [if_neg (by omega)]
    · exact ih j m (by omega) hm hr H
theorem within_l1 (f : S30) (w : W30 f) (wo : Int) (t : Nat) {Q : List Bool → Prop} (ht : t < 4611686018427387904) : ∀ (d i : Nat) (m : List Bool), f.f4.length - i ≤ d → m.length = f.f4.length →
    Gives (fun k => portolanref05_Within.l0 k wo (((List.range f.f4.length).drop i).foldl (stepW (nxt f.f4) wo) m) ((t + 1 : Nat) : Int) f.f0 f.f1 f.f2 f.f3 f.f4) Q → Gives (fun k => portolanref05_Within.l1 k wo m (t : Int) (i : Int) f.f0 f.f1 f.f2 f.f3 f.f4) Q := by
  have h4 := w.n4
  intro d
  induction d with
  | zero =>
    intro i m hi hm H
    rw [List.drop_of_length_le (by rw [List.length_range]; omega), List.foldl_nil] at H
    refine Gives.step (fun _ => rfl) ?_
    simp only [portolanref05_Within.l1]
    refine Gives.neg (by omega) ?_
    rw [w1 ht]
    exact H
  | succ d ih =>
    intro i m hi hm H
    by_cases hlt : i < f.f4.length
    · rw [List.drop_eq_getElem_cons (by rw [List.length_range]; exact hlt), List.foldl_cons, List.getElem_range] at H
      refine Gives.step (fun _ => rfl) ?_
      simp only [portolanref05_Within.l1]
      refine Gives.pos (by omega) ?_
      rw [ref_next_eq f w]
      refine Gives.some_bind ?_
      have H2 := ih (i + 1) _ (by omega) (by rw [stepW_len]; exact hm) H
      by_cases hr : rdOf false m (i : Int) = true
      · refine within_l2 f w wo t i hlt _ 0 m (Nat.le_refl _) hm hr ?_
        rw [List.drop_zero]
        unfold stepW at H2
        rw [if_pos hr] at H2
        exact H2
      · unfold stepW at H2
        rw [if_neg hr] at H2
        refine Gives.step (fun _ => rfl) ?_
        simp only [portolanref05_Within.l2]
        have fin : ∀ x : Bool, x = false → Gives (fun k => portolanref05_Within.j4 k wo m (t : Int) (i : Int) (nxt f.f4 (i : Int)) 0 x f.f0 f.f1 f.f2 f.f3 f.f4) Q := by
          intro x hx
          refine Gives.step (fun _ => rfl) ?_
          simp only [portolanref05_Within.j4]
          refine Gives.neg (by simp [hx]) ?_
          rw [w1 (by omega)]
          exact H2
        exact Gives.ite (fun _ => Gives.pos (by omega) (Gives.pos (by omega) (fin _ (by simpa using hr)))) (fun _ => fin _ rfl)
    · exact ih i m (by omega) hm H
theorem within_l0 (f : S30) (w : W30 f) (wo : Int) : ∀ (d t : Nat) (m : List Bool), f.f4.length - t = d → t ≤ f.f4.length → m.length = f.f4.length → Gives (fun k => portolanref05_Within.l0 k wo m (t : Int) f.f0 f.f1 f.f2 f.f3 f.f4) (fun r => r = PC.iter (passW (nxt f.f4) wo f.f4.length) d m) := by
  have h4 := w.n4
  intro d
  induction d with
  | zero =>
    intro t m ht _ hm
    refine Gives.step (fun _ => rfl) ?_
    simp only [portolanref05_Within.l0]
    exact Gives.neg (by omega) (Gives.now rfl)
  | succ d ih =>
    intro t m ht ht2 hm
    refine Gives.step (fun _ => rfl) ?_
    simp only [portolanref05_Within.l0]
    refine Gives.pos (by omega) (within_l1 f w wo t (by omega) _ 0 m (Nat.le_refl _) hm ?_)
    rw [List.drop_zero]
    exact ih (t + 1) _ (by omega) (by omega) ((passL_len _ m).trans hm)
theorem within_gives' (f : S30) (w : W30 f) (a wo : Int) (a0 : 0 ≤ a) : Gives (fun k => portolanref05_Within.f k f.f0 f.f1 f.f2 f.f3 f.f4 a wo) (fun r => r = withinL (nxt f.f4) f.f4.length a wo) := by
  have h4 := w.n4
  have stop : ∀ x : Bool, x = true → (a = wo ∨ a ≥ (f.f4.length : Int)) → Gives (fun k => portolanref05_Within.j0 k a wo (List.replicate f.f4.length false) x f.f0 f.f1 f.f2 f.f3 f.f4) (fun r => r = withinL (nxt f.f4) f.f4.length a wo) := by
    intro x hx h
    refine Gives.step (fun _ => rfl) ?_
    simp only [portolanref05_Within.j0]
    exact Gives.pos hx (Gives.now (by unfold withinL; rw [if_pos h]))
  unfold portolanref05_Within.f
  refine Gives.pos (by omega) (Gives.pos (by omega) (Gives.some_bind ?_))
  rw [Int.toNat_natCast]
  refine Gives.ite (fun h => stop true rfl (.inl h)) (fun h => ?_)
  by_cases h2 : a ≥ (f.f4.length : Int)
  · exact stop _ (decide_eq_true h2) (.inr h2)
  · refine Gives.step (fun _ => rfl) ?_
    simp only [portolanref05_Within.j0]
    refine Gives.neg (by simpa using h2) (Gives.pos (by omega) (Gives.pos (by simp only [List.length_replicate]; omega) ?_))
    have := within_l0 f w wo f.f4.length 0 ((List.replicate f.f4.length false).set a.toNat true) (by omega) (by omega) (by simp)
    exact this.mono (fun r hr => by rw [hr]; unfold withinL; rw [if_neg (by omega)])
theorem within_is_path {f4 : List S50} {a x : Int} (a0 : 0 ≤ a) (a1 : a < (f4.length : Int)) : M (withinL (nxt f4) f4.length a (-1)) x ↔ Path (nxt f4) f4.length a x := by
  rw [withinL_M _ _ _ _ a0, pathW_none]
  exact ⟨fun h => h.2.2, fun h => ⟨by omega, a1, h⟩⟩
end Go.Proofs.Ytcknmcfomkbenaa.Pure
