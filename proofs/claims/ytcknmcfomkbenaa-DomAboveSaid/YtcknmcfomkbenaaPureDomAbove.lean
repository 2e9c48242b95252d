/- The next above of each block, and whose it is, are the document's: the plain statement. -/
import Derived.Test.YtcknmcfomkbenaaPFx15
import Derived.Test.YtcknmcfomkbenaaPFx26
import Derived.Test.YtcknmcfomkbenaaPFx27
import Derived.Test.YtcknmcfomkbenaaPFx28
import Derived.Test.YtcknmcfomkbenaaPL
import Derived.Test.YtcknmcfomkbenaaPU
namespace Go.Proofs.Ytcknmcfomkbenaa.Pure
open Go.RowKit Go.Proofs.YtcknmcfomkbenaaW.PrintWords Go.Proofs.YtcknmcfomkbenaaW.PrintLast Go.Proofs.YtcknmcfomkbenaaW.PrintMore Go.Proofs.Ytcknmcfomkbenaa.PF Go.Proofs.Ytcknmcfomkbenaa.E Go.Proofs.Ytcknmcfomkbenaa.D
set_option linter.unusedVariables false
theorem av_path {nx : Int → List Int} {n : Nat} (ht : ∀ a b, b ∈ nx a → 1 ≤ b ∧ b < (n : Int)) {x y : Int} : Av nx x y ↔ 0 ≠ x ∧ PathW nx n x 0 y := by
  constructor
  · intro h
    induction h with
    | zero h => exact ⟨fun e => h e.symm, .refl⟩
    | step _ hc hne ih =>
      have := ht _ _ hc
      exact ⟨ih.1, .step ih.2 hc (by omega) this.2 hne⟩
  · rintro ⟨h0, h⟩
    induction h with
    | refl => exact .zero (fun e => h0 e.symm)
    | step _ hc _ _ hne ih => exact .step ih hc hne
def DomP (f : S30) (ab : List Int) (a b : Int) : Prop := a ∈ orderL f.f4 ∧ b ∈ orderL f.f4 ∧ Up ab b a
def allL (f : S30) (ab dp : List Int) (b : Int) (i : Nat) : List Int := ((List.range i).filter fun (j : Nat) => domF f.f4.length ab dp 70 (j : Int) b == some true).map fun (j : Nat) => (j : Int)
theorem allL_len (f : S30) (ab dp : List Int) (b : Int) (i : Nat) : (allL f ab dp b i).length ≤ i := by
  unfold allL
  rw [List.length_map]
  exact Nat.le_trans (List.length_filter_le _ _) (by simp)
theorem allL_yes {f : S30} {ab dp : List Int} {b : Int} {i : Nat} (h : (domF f.f4.length ab dp 70 (i : Int) b == some true) = true) : allL f ab dp b (i + 1) = allL f ab dp b i ++ [(i : Int)] := by
  unfold allL
  rw [List.range_succ, List.filter_append, List.map_append]
  simp only [List.filter, h, List.map_cons, List.map_nil]
theorem allL_no {f : S30} {ab dp : List Int} {b : Int} {i : Nat} (h : ¬ (domF f.f4.length ab dp 70 (i : Int) b == some true) = true) : allL f ab dp b (i + 1) = allL f ab dp b i := by
  unfold allL
  rw [List.range_succ, List.filter_append, List.map_append]
  have h2 : (domF f.f4.length ab dp 70 (i : Int) b == some true) = false := Bool.eq_false_iff.2 h
  simp only [List.filter, h2, List.map_nil, List.append_nil]
def others (l : List Int) (b : Int) (j : Nat) : List Int := (l.take j).filter fun x => decide (x ≠ b)
theorem others_len (l : List Int) (b : Int) (j : Nat) : (others l b j).length ≤ l.length := by
  unfold others
  exact Nat.le_trans (List.length_filter_le _ _) (by rw [List.length_take]; omega)
theorem domF_iff {f : S30} {ab dp : List Int} (da : DA f ab dp) (a b : Int) : (domF f.f4.length ab dp 70 a b == some true) = true ↔ DomP f ab a b := by
  obtain ⟨r, e, hr⟩ := da.tr.dom da.hi a b
  rw [e]
  exact Iff.trans (by cases r <;> simp) hr
theorem mem_allL {f : S30} {ab dp : List Int} (da : DA f ab dp) {x b : Int} : x ∈ allL f ab dp b f.f4.length ↔ DomP f ab x b := by
  unfold allL
  simp only [List.mem_map, List.mem_filter, List.mem_range]
  constructor
  · rintro ⟨j, ⟨h1, h2⟩, rfl⟩
    exact (domF_iff da _ _).1 h2
  · intro h
    have hr := da.tr.rng x h.1
    refine ⟨x.toNat, ⟨by omega, ?_⟩, Int.toNat_of_nonneg hr.1⟩
    rw [Int.toNat_of_nonneg hr.1]
    exact (domF_iff da _ _).2 h
theorem ref_above_l1 (f : S30) {ab dp : List Int} (da : DA f ab dp) (b : Nat) (hb : b < f.f4.length) (l : List Int) (hl : l.length < 17592186044416) (xs : List Int) (hxs : xs.length ≤ 64) {m : Int} {Q : List Int → Prop} (hm : Gives (fun k => portolanref06_lowest.f k f.f0 f.f1 f.f2 f.f3 f.f4 (others l (b : Int) l.length)) (fun r => r = m))
    (H : Gives (fun k => portolanref06_Above.l0 k (xs ++ [m]) ((b + 1 : Nat) : Int) f.f0 f.f1 f.f2 f.f3 f.f4) Q) :
    ∀ (d j : Nat), l.length - j ≤ d → j ≤ l.length → Gives (fun k => portolanref06_Above.l1 k xs (b : Int) l (others l (b : Int) j) (j : Int) f.f0 f.f1 f.f2 f.f3 f.f4) Q := by
  have hhi := da.hi
  have fin : ∀ j : Nat, j = l.length → Gives (fun k => portolanref06_Above.l1 k xs (b : Int) l (others l (b : Int) j) (j : Int) f.f0 f.f1 f.f2 f.f3 f.f4) Q := by
    intro j hj
    subst hj
    refine Gives.step (fun _ => rfl) ?_
    simp only [portolanref06_Above.l1]
    rw [w1 (i := b) (by omega)]
    refine Gives.neg (by omega) (Gives.bind hm (fun r hr => Gives.pos (by omega) ?_))
    rw [hr]
    exact H
  intro d
  induction d with
  | zero => exact fun j h1 h2 => fin j (by omega)
  | succ d ih =>
    intro j h1 h2
    by_cases hlt : j < l.length
    · have hol := others_len l (b : Int) j
      have ht1 : l.take (j + 1) = l.take j ++ [l[j]] := List.take_succ_eq_append_getElem hlt
      have e1 : others l (b : Int) (j + 1) = others l (b : Int) j ++ (if l[j] = (b : Int) then [] else [l[j]]) := by
        unfold others
        rw [ht1, List.filter_append]
        congr 1
        by_cases e : l[j] = (b : Int)
        · rw [if_pos e]; simp [List.filter, e]
        · rw [if_neg e]; simp [List.filter, e]
      refine Gives.step (fun _ => rfl) ?_
      simp only [portolanref06_Above.l1]
      rw [w1 (i := j) (by omega), rd_at hlt]
      have next := ih (j + 1) (by omega) (by omega)
      rw [e1] at next
      refine Gives.pos (by omega) (Gives.pos (by omega) (Gives.ite (fun e => ?_) (fun e => Gives.pos (by omega) ?_)))
      · rw [if_pos e, List.append_nil] at next
        exact next
      · rw [if_neg e] at next
        exact next
    · exact fin j (by omega)
section
variable (f : S30) (w : W30 f) {ab dp : List Int} (da : DA f ab dp) (ht : ∀ a b, b ∈ nxt f.f4 a → 1 ≤ b ∧ b < (f.f4.length : Int))
include w da ht
theorem ref_dominates_gives (a b : Int) : Gives (fun k => portolanref06_Dominates.f k f.f0 f.f1 f.f2 f.f3 f.f4 a b) (fun r => r = true ↔ DomP f ab a b) := by
  have t := da.tr
  have hlo := da.lo
  have od := (order_ord f.f4 hlo).1
  have ho : ∀ x, x ∈ orderL f.f4 ↔ M (withinL (nxt f.f4) f.f4.length 0 (-1)) x := fun x => by rw [od.mem, within_is_path (by omega) (by omega)]
  have hl1 := withinL_len (nxt f.f4) f.f4.length 0 (-1)
  have out : ∀ x : Bool, x = true → ¬ (a ∈ orderL f.f4 ∧ b ∈ orderL f.f4) → Gives (fun k => portolanref06_Dominates.j0 k a b x f.f0 f.f1 f.f2 f.f3 f.f4) (fun r => r = true ↔ DomP f ab a b) := by
    intro x hx h
    refine Gives.step (fun _ => rfl) ?_
    simp only [portolanref06_Dominates.j0]
    refine Gives.pos hx (Gives.now ?_)
    simp only [Bool.false_eq_true, false_iff]
    exact fun h2 => h ⟨h2.1, h2.2.1⟩
  unfold portolanref06_Dominates.f
  refine Gives.ite (fun h1 => out _ rfl (fun h => by have := t.rng _ h.1; omega)) (fun h1 => Gives.ite (fun h2 => out _ rfl (fun h => by have := t.rng _ h.2; omega)) (fun h2 => Gives.ite (fun h3 => out _ rfl (fun h => by have := t.rng _ h.1; omega)) (fun h3 => ?_)))
  by_cases h4 : b ≥ (f.f4.length : Int)
  · rw [decide_eq_true h4]
    exact out _ rfl (fun h => by have := t.rng _ h.2; omega)
  rw [decide_eq_false h4]
  refine Gives.step (fun _ => rfl) ?_
  simp only [portolanref06_Dominates.j0]
  refine Gives.neg (by simp) (Gives.bind (within_gives' f w 0 (-1) (by omega)) (fun m hm => ?_))
  subst hm
  have no : ¬ (a ∈ orderL f.f4 ∧ b ∈ orderL f.f4) → (false = true ↔ DomP f ab a b) := by
    intro h
    simp only [Bool.false_eq_true, false_iff]
    exact fun h2 => h ⟨h2.1, h2.2.1⟩
  refine Gives.pos (by omega) (Gives.pos (by rw [hl1]; omega) (Gives.ite (fun ha => Gives.pos (by omega) (Gives.pos (by rw [hl1]; omega) (Gives.ite (fun hb => ?_) (fun hb => Gives.now (no (fun h => hb ((M_rd (by omega)).2 ((ho _).1 h.2)))))))) (fun ha => Gives.now (no (fun h => ha ((M_rd (by omega)).2 ((ho _).1 h.1)))))))
  have hao := (ho a).2 ((M_rd (by omega)).1 ha)
  have hbo := (ho b).2 ((M_rd (by omega)).1 hb)
  refine Gives.ite (fun e => Gives.now ?_) (fun e => Gives.bind (within_gives' f w 0 a (by omega)) (fun m hm => ?_))
  · subst e
    exact ⟨fun _ => ⟨hao, hbo, .refl _⟩, fun _ => rfl⟩
  · subst hm
    have hl2 := withinL_len (nxt f.f4) f.f4.length 0 a
    refine Gives.pos (by rw [hl2]; omega) (Gives.now ?_)
    have hM := withinL_M (nxt f.f4) f.f4.length 0 a (by omega) b
    have hr : rdOf false (withinL (nxt f.f4) f.f4.length 0 a) b = true ↔ M (withinL (nxt f.f4) f.f4.length 0 a) b := M_rd (by omega)
    have hav : Av (nxt f.f4) a b ↔ rdOf false (withinL (nxt f.f4) f.f4.length 0 a) b = true := by
      rw [hr, hM, av_path ht]
      exact ⟨fun h => ⟨h.1, by omega, h.2⟩, fun h => ⟨h.1, h.2.2⟩⟩
    rw [Bool.not_eq_true']
    constructor
    · intro h
      refine ⟨hao, hbo, (t.up b hbo a).2 ⟨hao, fun h2 => ?_⟩⟩
      rw [hav.1 h2] at h
      cases h
    · intro h
      have := ((t.up b hbo a).1 h.2.2).2
      rw [hav] at this
      simpa using this
theorem ref_all_gives (b : Int) : Gives (fun k => portolanref06_All.f k f.f0 f.f1 f.f2 f.f3 f.f4 b) (fun r => r = allL f ab dp b f.f4.length) := by
  have hhi := da.hi
  unfold portolanref06_All.f
  suffices h : ∀ (d i : Nat), f.f4.length - i ≤ d → i ≤ f.f4.length → Gives (fun k => portolanref06_All.l0 k b (allL f ab dp b i) (i : Int) f.f0 f.f1 f.f2 f.f3 f.f4) (fun r => r = allL f ab dp b f.f4.length) from h _ 0 (Nat.le_refl _) (Nat.zero_le _)
  have fin : ∀ i : Nat, i = f.f4.length → Gives (fun k => portolanref06_All.l0 k b (allL f ab dp b i) (i : Int) f.f0 f.f1 f.f2 f.f3 f.f4) (fun r => r = allL f ab dp b f.f4.length) := by
    intro i hi
    refine Gives.step (fun _ => rfl) ?_
    simp only [portolanref06_All.l0]
    exact Gives.neg (by omega) (Gives.now (by rw [hi]))
  intro d
  induction d with
  | zero => exact fun i h1 h2 => fin i (by omega)
  | succ d ih =>
    intro i h1 h2
    by_cases hlt : i < f.f4.length
    · have hl := allL_len f ab dp b i
      refine Gives.step (fun _ => rfl) ?_
      simp only [portolanref06_All.l0]
      rw [w1 (by omega)]
      refine Gives.pos (by omega) (Gives.bind (ref_dominates_gives f w da ht (i : Int) b) (fun r hr => Gives.ite (fun h => Gives.pos (by omega) ?_) (fun h => ?_)))
      · rw [← allL_yes ((domF_iff da _ _).2 (hr.1 h))]
        exact ih (i + 1) (by omega) (by omega)
      · rw [← allL_no (fun h3 => h (hr.2 ((domF_iff da _ _).1 h3)))]
        exact ih (i + 1) (by omega) (by omega)
    · exact fin i (by omega)
theorem ref_lowest_l1 (l : List Int) (hl : l.length < 4611686018427387904) (i : Nat) (hi : i < l.length) {Q : Int → Prop} (H : ((∀ x ∈ l, DomP f ab x l[i]) → Q l[i]) ∧ ((¬ ∀ x ∈ l, DomP f ab x l[i]) → Gives (fun k => portolanref06_lowest.l0 k l ((i + 1 : Nat) : Int) f.f0 f.f1 f.f2 f.f3 f.f4) Q)) :
    ∀ (d j : Nat) (x : Bool), l.length - j ≤ d → (x = true ↔ ∀ y ∈ l.take j, DomP f ab y l[i]) → Gives (fun k => portolanref06_lowest.l1 k l (i : Int) x (j : Int) f.f0 f.f1 f.f2 f.f3 f.f4) Q := by
  have fin : ∀ (j : Nat) (x : Bool), l.length ≤ j → (x = true ↔ ∀ y ∈ l.take j, DomP f ab y l[i]) → Gives (fun k => portolanref06_lowest.l1 k l (i : Int) x (j : Int) f.f0 f.f1 f.f2 f.f3 f.f4) Q := by
    intro j x hj hx
    rw [List.take_of_length_le hj] at hx
    refine Gives.step (fun _ => rfl) ?_
    simp only [portolanref06_lowest.l1]
    rw [w1 (i := i) (by omega), rd_at hi]
    exact Gives.neg (by omega) (Gives.ite (fun h => Gives.pos (by omega) (Gives.pos (by omega) (Gives.now (H.1 (hx.1 h))))) (fun h => H.2 (fun h2 => h (hx.2 h2))))
  intro d
  induction d with
  | zero => exact fun j x hj hx => fin j x (by omega) hx
  | succ d ih =>
    intro j x hj hx
    by_cases hlt : j < l.length
    · have ht1 : l.take (j + 1) = l.take j ++ [l[j]] := List.take_succ_eq_append_getElem hlt
      refine Gives.step (fun _ => rfl) ?_
      simp only [portolanref06_lowest.l1]
      rw [w1 (i := j) (by omega), rd_at hlt, rd_at hi]
      refine Gives.pos (by omega) (Gives.ite (fun h => Gives.pos (by omega) (Gives.pos (by omega) (Gives.pos (by omega) (Gives.bind (ref_dominates_gives f w da ht l[j] l[i]) (fun r hr => ih (j + 1) r (by omega) ?_))))) (fun h => ih (j + 1) false (by omega) ?_))
      · rw [hr, ht1]
        constructor
        · intro h2 y hy
          rcases List.mem_append.1 hy with hy | hy
          · exact hx.1 h y hy
          · rw [List.mem_singleton.1 hy]; exact h2
        · exact fun h2 => h2 _ (List.mem_append.2 (.inr (List.mem_singleton.2 rfl)))
      · rw [ht1]
        constructor
        · intro h2; cases h2
        · exact fun h2 => absurd (hx.2 (fun y hy => h2 y (List.mem_append.2 (.inl hy)))) h
    · exact fin j x (by omega) hx
theorem ref_lowest_gives (l : List Int) (hl : l.length < 4611686018427387904) {m : Int} (hm : (m ∈ l ∧ (∀ x ∈ l, DomP f ab x m) ∧ ∀ y ∈ l, (∀ x ∈ l, DomP f ab x y) → y = m) ∨ (m = -1 ∧ l = [])) :
    Gives (fun k => portolanref06_lowest.f k f.f0 f.f1 f.f2 f.f3 f.f4 l) (fun r => r = m) := by
  unfold portolanref06_lowest.f
  rcases hm with ⟨hm1, hm2, hm3⟩ | ⟨rfl, rfl⟩
  · obtain ⟨q, hq⟩ := List.mem_iff_getElem.1 hm1
    obtain ⟨hq1, hq2⟩ := hq
    suffices h : ∀ (d i : Nat), q - i ≤ d → i ≤ q → Gives (fun k => portolanref06_lowest.l0 k l (i : Int) f.f0 f.f1 f.f2 f.f3 f.f4) (fun r => r = m) from h _ 0 (Nat.le_refl _) (Nat.zero_le _)
    have at_ : ∀ i : Nat, i ≤ q → (i < q → Gives (fun k => portolanref06_lowest.l0 k l ((i + 1 : Nat) : Int) f.f0 f.f1 f.f2 f.f3 f.f4) (fun r => r = m)) → Gives (fun k => portolanref06_lowest.l0 k l (i : Int) f.f0 f.f1 f.f2 f.f3 f.f4) (fun r => r = m) := by
      intro i hi H
      refine Gives.step (fun _ => rfl) ?_
      simp only [portolanref06_lowest.l0]
      refine Gives.pos (by omega) (ref_lowest_l1 f w da ht l hl i (by omega) ⟨fun h => hm3 _ (List.getElem_mem _) h, fun h => H ?_⟩ l.length 0 true (by omega) (by simp))
      rcases Nat.lt_or_eq_of_le hi with h1 | h1
      · exact h1
      · subst h1
        exact absurd (by rw [hq2]; exact hm2) h
    intro d
    induction d with
    | zero => exact fun i h1 h2 => at_ i h2 (fun h => by omega)
    | succ d ih => exact fun i h1 h2 => at_ i h2 (fun h => ih (i + 1) (by omega) (by omega))
  · refine Gives.step (fun _ => rfl) ?_
    simp only [portolanref06_lowest.l0]
    exact Gives.neg (by simp) (Gives.now rfl)
theorem above_lowest (b : Int) (b0 : 0 ≤ b) (b1 : b < (f.f4.length : Int)) : Gives (fun k => portolanref06_lowest.f k f.f0 f.f1 f.f2 f.f3 f.f4 (others (allL f ab dp b f.f4.length) b (allL f ab dp b f.f4.length).length)) (fun r => r = rd ab b) := by
  have t := da.tr
  have hhi := da.hi
  have hal := allL_len f ab dp b f.f4.length
  have hol := others_len (allL f ab dp b f.f4.length) b (allL f ab dp b f.f4.length).length
  have hmem : ∀ x, x ∈ others (allL f ab dp b f.f4.length) b (allL f ab dp b f.f4.length).length ↔ DomP f ab x b ∧ x ≠ b := by
    intro x
    unfold others
    rw [List.take_length, List.mem_filter, mem_allL da, decide_eq_true_iff]
  refine ref_lowest_gives f w da ht _ (by omega) ?_
  by_cases h : b ∈ orderL f.f4 ∧ b ≠ 0
  · left
    have hz := t.pos h.1 h.2
    have hi := t.ai b h.1 h.2
    have hd := t.ds b h.1 h.2
    have hne : rd ab b ≠ b := fun e => by rw [e] at hd; omega
    have hup : ∀ x, DomP f ab x b → x ≠ b → DomP f ab x (rd ab b) := by
      rintro x ⟨h1, h2, h3⟩ hx
      refine ⟨h1, hi, ?_⟩
      cases h3 with
      | refl => exact absurd rfl hx
      | up _ h4 => exact h4
    refine ⟨(hmem _).2 ⟨⟨hi, h.1, .up hz (.refl _)⟩, hne⟩, fun x hx => ?_, fun y hy hall => ?_⟩
    · have := (hmem x).1 hx
      exact hup x this.1 this.2
    · have hy1 := (hmem y).1 hy
      have h1 := hup y hy1.1 hy1.2
      have h2 := hall _ ((hmem _).2 ⟨⟨hi, h.1, .up hz (.refl _)⟩, hne⟩)
      have k1 := (t.inn h1.2.2 hi).2
      have k2 := (t.inn h2.2.2 hy1.1.1).2
      rcases k1 with e | k1
      · exact e
      · rcases k2 with e | k2
        · exact e.symm
        · omega
  · right
    have hx : ∀ x, ¬ (DomP f ab x b ∧ x ≠ b) := by
      rintro x ⟨⟨h1, h2, h3⟩, hx⟩
      have hb0 : b = 0 := Classical.byContradiction (fun h4 => h ⟨h2, h4⟩)
      subst hb0
      cases h3 with
      | refl => exact hx rfl
      | up h4 _ => have := t.a0; omega
    constructor
    · by_cases hb : b ∈ orderL f.f4
      · have hb0 : b = 0 := Classical.byContradiction (fun h4 => h ⟨hb, h4⟩)
        subst hb0
        exact t.am
      · exact t.ao b b0 b1 hb
    · rw [List.eq_nil_iff_forall_not_mem]
      exact fun x hx2 => hx x ((hmem x).1 hx2)
theorem ref_above_gives : Gives (fun k => portolanref06_Above.f k f.f0 f.f1 f.f2 f.f3 f.f4) (fun r => r = ab) := by
  have t := da.tr
  have hhi := da.hi
  unfold portolanref06_Above.f
  suffices h : ∀ (d b : Nat), f.f4.length - b ≤ d → b ≤ f.f4.length → Gives (fun k => portolanref06_Above.l0 k (ab.take b) (b : Int) f.f0 f.f1 f.f2 f.f3 f.f4) (fun r => r = ab) from h _ 0 (Nat.le_refl _) (Nat.zero_le _)
  have fin : ∀ b : Nat, b = f.f4.length → Gives (fun k => portolanref06_Above.l0 k (ab.take b) (b : Int) f.f0 f.f1 f.f2 f.f3 f.f4) (fun r => r = ab) := by
    intro b hb
    refine Gives.step (fun _ => rfl) ?_
    simp only [portolanref06_Above.l0]
    exact Gives.neg (by omega) (Gives.now (by rw [hb, ← t.la]; exact List.take_length))
  intro d
  induction d with
  | zero => exact fun b h1 h2 => fin b (by omega)
  | succ d ih =>
    intro b h1 h2
    by_cases hlt : b < f.f4.length
    · have hal := allL_len f ab dp (b : Int) f.f4.length
      refine Gives.step (fun _ => rfl) ?_
      simp only [portolanref06_Above.l0]
      refine Gives.pos (by omega) (Gives.bind (ref_all_gives f w da ht (b : Int)) (fun l hl => ?_))
      subst hl
      have next := ih (b + 1) (by omega) (by omega)
      have hb2 : b < ab.length := by rw [t.la]; exact hlt
      rw [List.take_succ_eq_append_getElem hb2, ← rd_at hb2] at next
      exact ref_above_l1 f da b hlt _ (by omega) (ab.take b) (by rw [List.length_take]; omega) (above_lowest f w da ht (b : Int) (by omega) (by omega)) next _ 0 (Nat.le_refl _) (Nat.zero_le _)
    · exact fin b (by omega)
theorem ref_kids_gives (b : Int) : Gives (fun k => portolanref06_Kids.f k f.f0 f.f1 f.f2 f.f3 f.f4 b) (fun r => r = kidsL ab b f.f4.length) := by
  have t := da.tr
  have hhi := da.hi
  unfold portolanref06_Kids.f
  refine Gives.bind (ref_above_gives f w da ht) (fun l hl => ?_)
  subst hl
  suffices h : ∀ (d i : Nat), f.f4.length - i ≤ d → i ≤ f.f4.length → Gives (fun k => portolanref06_Kids.l0 k b (kidsL l b i) l (i : Int)) (fun r => r = kidsL l b f.f4.length) from h _ 0 (Nat.le_refl _) (Nat.zero_le _)
  have fin : ∀ i : Nat, i = f.f4.length → Gives (fun k => portolanref06_Kids.l0 k b (kidsL l b i) l (i : Int)) (fun r => r = kidsL l b f.f4.length) := by
    intro i hi
    refine Gives.step (fun _ => rfl) ?_
    simp only [portolanref06_Kids.l0]
    exact Gives.neg (by rw [t.la]; omega) (Gives.now (by rw [hi]))
  intro d
  induction d with
  | zero => exact fun i h1 h2 => fin i (by omega)
  | succ d ih =>
    intro i h1 h2
    by_cases hlt : i < f.f4.length
    · have hkl := kidsL_len l b i
      have next := ih (i + 1) (by omega) (by omega)
      have e : kidsL l b (i + 1) = if rd l (i : Int) = b ∧ 0 ≤ rd l (i : Int) then kidsL l b i ++ [(i : Int)] else kidsL l b i := rfl
      refine Gives.step (fun _ => rfl) ?_
      simp only [portolanref06_Kids.l0]
      rw [w1 (by omega)]
      refine Gives.pos (by rw [t.la]; omega) (Gives.pos (by omega) (Gives.ite (fun h3 => Gives.ite (fun h4 => Gives.pos (by omega) ?_) (fun h4 => ?_)) (fun h3 => ?_)))
      · rw [e, if_pos ⟨h3, by omega⟩] at next
        exact next
      · rw [e, if_neg (by omega)] at next
        exact next
      · rw [e, if_neg (fun h => h3 h.1)] at next
        exact next
    · exact fin i (by omega)
end
theorem domAbove_l0 (p : List S30) (wp : WP p) (ok : OkProg p) (b : Int) : ∀ (d i : Nat), p.length - i ≤ d → Gives (fun k => portolanlaw06_DomAbove.l0 k b (i : Int) p) (fun r => r = true) := by
  have hp := wp.n
  intro d
  induction d with
  | zero =>
    intro i hi
    refine Gives.step (fun _ => rfl) ?_
    simp only [portolanlaw06_DomAbove.l0]
    exact Gives.neg (by omega) (Gives.now rfl)
  | succ d ih =>
    intro i hi
    by_cases hlt : i < p.length
    · have hf := List.getElem_mem hlt
      have w := wp.w _ hf
      obtain ⟨ab, dp, da⟩ := dom_all ok hf w
      have ht : ∀ a b, b ∈ nxt p[i].f4 a → 1 ≤ b ∧ b < (p[i].f4.length : Int) := fun a b h => okp_tgt ok hf h
      have hhi := da.hi
      have hla := da.tr.la
      have hkl := kidsL_len ab b p[i].f4.length
      refine Gives.step (fun _ => rfl) ?_
      simp only [portolanlaw06_DomAbove.l0]
      rw [rdS30_at hlt, w1 (by omega), da.abv, da.kid b]
      refine Gives.pos (by omega) (Gives.pos (by omega) (Gives.some_bind (Gives.bind (ref_above_gives _ w da ht) (fun l hl => ?_))))
      subst hl
      refine Gives.bind (ints_gives _ _ (by omega)) (fun c hc => Gives.pos (hc.2 rfl) (Gives.some_bind (Gives.bind (ref_kids_gives _ w da ht b) (fun l2 hl2 => ?_))))
      subst hl2
      exact Gives.bind (ints_gives _ _ (by omega)) (fun c hc => Gives.pos (hc.2 rfl) (ih (i + 1) (by omega)))
    · exact ih i (by omega)
theorem DomAbove (p : List S30) (b : Int) (wp : WP p) (w1 : (Lit.int .i64 b).wf = true) : ∃ k, portolanlaw06_DomAbove.f k p b = some true := by
  have h : Gives (fun k => portolanlaw06_DomAbove.f k p b) (fun r => r = true) := by
    unfold portolanlaw06_DomAbove.f
    refine Gives.bind alive6_gives (fun a ha => Gives.pos ha (Gives.bind (out6_gives p wp) (fun c hc => ?_)))
    refine Gives.ite (fun _ => Gives.now rfl) (fun h => ?_)
    exact domAbove_l0 p wp (hc (by simpa using h)) b _ 0 (Nat.le_refl _)
  obtain ⟨r, k, e, rfl⟩ := h.rounds
  exact ⟨k, e⟩
end Go.Proofs.Ytcknmcfomkbenaa.Pure
