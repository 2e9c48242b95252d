/- Programs that may be: what the reference's check answers, and what it tells of a program. -/
import Derived.Test.YtcknmcfomkbenaaPFx4
import Derived.Test.YtcknmcfomkbenaaPFx5
import Derived.Test.YtcknmcfomkbenaaPFx8
import Derived.Test.YtcknmcfomkbenaaPFx9
import Derived.Test.YtcknmcfomkbenaaE
import Derived.Test.YtcknmcfomkbenaaPC
namespace Go.Proofs.Ytcknmcfomkbenaa.Pure
open Go.RowKit Go.Proofs.YtcknmcfomkbenaaW.PrintWords Go.Proofs.YtcknmcfomkbenaaW.PrintLast Go.Proofs.YtcknmcfomkbenaaW.PrintMore Go.Proofs.Ytcknmcfomkbenaa.PF Go.Proofs.Ytcknmcfomkbenaa.E
set_option linter.unusedVariables false
theorem rdS52_at {xs : List S52} {i : Nat} (h : i < xs.length) : rd_T52 xs (i : Int) = xs[i] := by
  unfold rd_T52
  rw [Int.toNat_natCast, List.getD_eq_getElem?_getD, List.getElem?_eq_getElem h]
  rfl
theorem rdS50_at {xs : List S50} {i : Nat} (h : i < xs.length) : rd_T50 xs (i : Int) = xs[i] := by
  unfold rd_T50
  rw [Int.toNat_natCast, List.getD_eq_getElem?_getD, List.getElem?_eq_getElem h]
  rfl
theorem rdS30_at {xs : List S30} {i : Nat} (h : i < xs.length) : rd_T30 xs (i : Int) = xs[i] := by
  unfold rd_T30
  rw [Int.toNat_natCast, List.getD_eq_getElem?_getD, List.getElem?_eq_getElem h]
  rfl
def I64 (x : Int) : Prop := -9223372036854775808 ≤ x ∧ x < 9223372036854775808
structure W52 (x : S52) : Prop where
  w0 : I64 x.f0
  w1 : I64 x.f1
  w2 : I64 x.f2
  w3 : I64 x.f3
  w4 : I64 x.f4
  w5 : I64 x.f5
  n6 : x.f6.length ≤ 17592186043904
  w6 : ∀ y ∈ x.f6, I64 y
structure W50 (b : S50) : Prop where
  n0 : b.f0.length ≤ 17592186043904
  w0 : ∀ x ∈ b.f0, W52 x
structure W30 (f : S30) : Prop where
  n0 : f.f0.length ≤ 17592186043904
  w0 : ∀ y ∈ f.f0, I64 y
  n1 : f.f1.length ≤ 17592186043904
  w1 : ∀ y ∈ f.f1, I64 y
  w2 : I64 f.f2
  w3 : I64 f.f3
  n4 : f.f4.length ≤ 17592186043904
  w4 : ∀ b ∈ f.f4, W50 b
structure WP (p : List S30) : Prop where
  n : p.length ≤ 17592186043904
  w : ∀ f ∈ p, W30 f
theorem within_is (a b c : Int) : portolanref04_within.f a b c = some (decide (b ≤ a ∧ a ≤ c)) := by
  unfold portolanref04_within.f
  by_cases h : a ≥ b
  · rw [if_pos h]
    have h1 : b ≤ a := h
    simp [h1]
  · rw [if_neg h]
    have h1 : ¬ b ≤ a := h
    simp [h1]
theorem within_gives (a b c : Int) : Gives (fun _ => portolanref04_within.f a b c) (fun r => r = true ↔ (b ≤ a ∧ a ≤ c)) := by
  rw [within_is]
  exact Gives.now (by simp)
theorem last_gives (a : Int) : Gives (fun _ => portolanref04_Last.f a) (fun r => r = true ↔ (a = 21 ∨ a = 22 ∨ a = 23)) := by
  unfold portolanref04_Last.f
  by_cases h1 : a = 21
  · rw [if_pos h1]; exact Gives.now (by simp [h1])
  rw [if_neg h1]
  by_cases h2 : a = 22
  · rw [if_pos h2]; exact Gives.now (by simp [h2])
  rw [if_neg h2]
  exact Gives.now (by simp [h1, h2])
theorem great_l2 (p : List S30) (f : S30) (hp : p.length < 4611686018427387904) (hf4 : f.f4.length < 4611686018427387904) (i b : Nat) (hb : b < f.f4.length) (hc : f.f4[b].f0.length < 4611686018427387904)
    (H : ∀ n : Int, Gives (fun k => portolanref03_Great.l1 k n (i : Int) ((b + 1 : Nat) : Int) p f.f0 f.f1 f.f2 f.f3 f.f4) (fun _ => True)) :
    ∀ (d j : Nat), f.f4[b].f0.length - j ≤ d → ∀ n : Int, Gives (fun k => portolanref03_Great.l2 k n (i : Int) (b : Int) (j : Int) p f.f0 f.f1 f.f2 f.f3 f.f4) (fun _ => True) := by
  intro d
  induction d with
  | zero =>
    intro j hj n
    refine Gives.step (fun _ => rfl) ?_
    simp only [portolanref03_Great.l2]
    rw [rdS50_at hb]
    refine Gives.pos (by omega) (Gives.pos (by omega) (Gives.neg (by omega) ?_))
    rw [w1 (by omega)]
    exact H n
  | succ d ih =>
    intro j hj n
    refine Gives.step (fun _ => rfl) ?_
    simp only [portolanref03_Great.l2]
    rw [rdS50_at hb]
    refine Gives.pos (by omega) (Gives.pos (by omega) (Gives.ite (fun h1 => ?_) (fun h1 => ?_)))
    · refine Gives.ite (fun _ => Gives.pos (by omega) ?_) (fun _ => ?_)
      · rw [w1 (by omega)]
        exact ih (j + 1) (by omega) _
      · rw [w1 (by omega)]
        exact H n
    · rw [w1 (by omega)]
      exact H n
theorem great_l1 (p : List S30) (f : S30) (w : W30 f) (i : Nat) (H : ∀ n : Int, Gives (fun k => portolanref03_Great.l0 k n ((i + 1 : Nat) : Int) p) (fun _ => True)) (hp : p.length < 4611686018427387904) (hi : i < p.length) :
    ∀ (d b : Nat), f.f4.length - b ≤ d → ∀ n : Int, Gives (fun k => portolanref03_Great.l1 k n (i : Int) (b : Int) p f.f0 f.f1 f.f2 f.f3 f.f4) (fun _ => True) := by
  have h4 := w.n4
  have back : ∀ (n : Int) (b : Nat), Gives (fun k => portolanref03_Great.j3 k n (i : Int) (b : Int) false p f.f0 f.f1 f.f2 f.f3 f.f4) (fun _ => True) := by
    intro n b
    refine Gives.step (fun _ => rfl) ?_
    simp only [portolanref03_Great.j3]
    refine Gives.neg (by simp) ?_
    rw [w1 (by omega)]
    exact H n
  intro d
  induction d with
  | zero =>
    intro b hb n
    refine Gives.step (fun _ => rfl) ?_
    simp only [portolanref03_Great.l1]
    exact Gives.neg (by omega) (back n b)
  | succ d ih =>
    intro b hb n
    refine Gives.step (fun _ => rfl) ?_
    simp only [portolanref03_Great.l1]
    refine Gives.ite (fun h1 => ?_) (fun _ => back n b)
    have hlt : b < f.f4.length := by omega
    cases hd : decide (n ≤ 3000) with
    | false => exact back n b
    | true =>
      refine Gives.step (fun _ => rfl) ?_
      simp only [portolanref03_Great.j3]
      refine Gives.pos trivial (Gives.pos (by omega) (Gives.pos (by omega) ?_))
      have := (w.w4 _ (List.getElem_mem hlt)).n0
      exact great_l2 p f hp (by omega) i b hlt (by omega) (fun n => ih (b + 1) (by omega) n) _ 0 (Nat.le_refl _) _
theorem great_l0 (p : List S30) (w : WP p) : ∀ (d i : Nat), p.length - i ≤ d → ∀ n : Int, Gives (fun k => portolanref03_Great.l0 k n (i : Int) p) (fun _ => True) := by
  have hp := w.n
  have back : ∀ (n : Int) (i : Nat), Gives (fun k => portolanref03_Great.j1 k n (i : Int) false p) (fun _ => True) := by
    intro n i
    refine Gives.step (fun _ => rfl) ?_
    simp only [portolanref03_Great.j1]
    exact Gives.neg (by simp) (Gives.now trivial)
  intro d
  induction d with
  | zero =>
    intro i hi n
    refine Gives.step (fun _ => rfl) ?_
    simp only [portolanref03_Great.l0]
    exact Gives.neg (by omega) (back n i)
  | succ d ih =>
    intro i hi n
    refine Gives.step (fun _ => rfl) ?_
    simp only [portolanref03_Great.l0]
    refine Gives.ite (fun h1 => ?_) (fun _ => back n i)
    have hlt : i < p.length := by omega
    cases hd : decide (n ≤ 3000) with
    | false => exact back n i
    | true =>
      refine Gives.step (fun _ => rfl) ?_
      simp only [portolanref03_Great.j1]
      refine Gives.pos trivial (Gives.pos (by omega) (Gives.pos (by omega) ?_))
      rw [rdS30_at hlt]
      exact great_l1 p p[i] (w.w _ (List.getElem_mem hlt)) i (fun n => ih (i + 1) (by omega) n) (by omega) hlt _ 0 (Nat.le_refl _) _
theorem great_gives (p : List S30) (w : WP p) : Gives (fun k => portolanref03_Great.f k p) (fun _ => True) := by
  unfold portolanref03_Great.f
  exact great_l0 p w _ 0 (Nat.le_refl _) _
def Lasts (op : Int) : Prop := op = 21 ∨ op = 22 ∨ op = 23
structure OkBlock (c : List S52) : Prop where
  lo : 1 ≤ c.length
  hi : c.length ≤ 40
  last : ∀ (k : Nat) x, c[k]? = some x → (Lasts x.f0 ↔ k + 1 = c.length)
structure OkVars (f0 f1 : List Int) (f2 : Int) : Prop where
  len : f1.length = f0.length
  rng : ∀ x ∈ f0, 0 ≤ x ∧ x ≤ 2
  par : ∀ (i : Nat) x, f0[i]? = some x → (i : Int) < f2 → x ≠ 2
  base : ∀ (i : Nat) x b, f0[i]? = some x → f1[i]? = some b → (x ≠ 2 → b = -1) ∧ (x = 2 → 0 ≤ b ∧ b < (f0.length : Int) ∧ f0[b.toNat]? = some 1)
structure OkFunc (f : S30) : Prop where
  n0 : f.f0.length ≤ 48
  vars : OkVars f.f0 f.f1 f.f2
  p0 : 0 ≤ f.f2
  p1 : f.f2 ≤ 4
  p2 : f.f2 ≤ (f.f0.length : Int)
  r : f.f3 = 0 ∨ f.f3 = 1
  lo : 1 ≤ f.f4.length
  hi : f.f4.length ≤ 40
  blk : ∀ b ∈ f.f4, OkBlock b.f0
theorem func_l2 (f : S30) (w : W30 f) (b : Nat) (hb : b < f.f4.length) {Q : Prop} (H : OkBlock f.f4[b].f0 → Gives (fun k => portolanref04_Func.l1 k ((b + 1 : Nat) : Int) f.f0 f.f1 f.f2 f.f3 f.f4) (fun r => r = true → Q)) (h40 : 1 ≤ f.f4[b].f0.length ∧ f.f4[b].f0.length ≤ 40) :
    ∀ (d j : Nat), f.f4[b].f0.length - j ≤ d → (∀ (k : Nat) x, k < j → f.f4[b].f0[k]? = some x → (Lasts x.f0 ↔ k + 1 = f.f4[b].f0.length)) → Gives (fun k => portolanref04_Func.l2 k (b : Int) f.f4[b].f0 (j : Int) f.f0 f.f1 f.f2 f.f3 f.f4) (fun r => r = true → Q) := by
  have h4 := w.n4
  intro d
  induction d with
  | zero =>
    intro j hj hk
    refine Gives.step (fun _ => rfl) ?_
    simp only [portolanref04_Func.l2]
    refine Gives.neg (by omega) ?_
    rw [w1 (by omega)]
    exact H ⟨h40.1, h40.2, fun k x hx => hk k x (by have := (List.getElem?_eq_some_iff.1 hx).1; omega) hx⟩
  | succ d ih =>
    intro j hj hk
    refine Gives.step (fun _ => rfl) ?_
    simp only [portolanref04_Func.l2]
    refine Gives.ite (fun h1 => ?_) (fun h1 => ?_)
    · have hlt : j < f.f4[b].f0.length := by omega
      rw [rdS52_at hlt]
      refine Gives.pos (by omega) (Gives.bind (last_gives _) (fun a ha => Gives.ite (fun _ => Gives.now (by simp)) (fun h2 => ?_)))
      rw [w1 (by omega)]
      refine ih (j + 1) (by omega) (fun k x hkj hx => ?_)
      by_cases e : k = j
      · subst e
        rw [List.getElem?_eq_getElem hlt] at hx
        obtain rfl := Option.some.inj hx
        have e1 : a = ((k : Int) == wrap64 ((f.f4[b].f0.length : Int) - 1)) := by simpa using h2
        rw [show wrap64 ((f.f4[b].f0.length : Int) - 1) = (f.f4[b].f0.length : Int) - 1 from wid (by omega) (by omega)] at e1
        unfold Lasts
        rw [← ha, e1, beq_iff_eq]
        omega
      · exact hk k x (by omega) hx
    · refine (?_ : Gives _ _)
      rw [w1 (by omega)]
      exact H ⟨h40.1, h40.2, fun k x hx => hk k x (by have := (List.getElem?_eq_some_iff.1 hx).1; omega) hx⟩
theorem func_l1 (f : S30) (w : W30 f) : ∀ (d b : Nat), f.f4.length - b ≤ d → (∀ (k : Nat) x, k < b → f.f4[k]? = some x → OkBlock x.f0) → Gives (fun k => portolanref04_Func.l1 k (b : Int) f.f0 f.f1 f.f2 f.f3 f.f4) (fun r => r = true → ∀ x ∈ f.f4, OkBlock x.f0) := by
  have h4 := w.n4
  have fin : ∀ b : Nat, f.f4.length ≤ b → (∀ (k : Nat) x, k < b → f.f4[k]? = some x → OkBlock x.f0) → ∀ x ∈ f.f4, OkBlock x.f0 := by
    intro b hb hk x hx
    obtain ⟨k, hk2⟩ := List.mem_iff_getElem?.1 hx
    exact hk k x (by have := (List.getElem?_eq_some_iff.1 hk2).1; omega) hk2
  intro d
  induction d with
  | zero =>
    intro b hb hk
    refine Gives.step (fun _ => rfl) ?_
    simp only [portolanref04_Func.l1]
    exact Gives.neg (by omega) (Gives.now fun _ => fin b (by omega) hk)
  | succ d ih =>
    intro b hb hk
    refine Gives.step (fun _ => rfl) ?_
    simp only [portolanref04_Func.l1]
    refine Gives.ite (fun h1 => ?_) (fun h1 => Gives.now fun _ => fin b (by omega) hk)
    have hlt : b < f.f4.length := by omega
    rw [rdS50_at hlt]
    refine Gives.pos (by omega) (Gives.bind (within_gives _ _ _) (fun a ha => Gives.ite (fun h2 => ?_) (fun _ => Gives.now (by simp))))
    have h40 := ha.1 h2
    refine func_l2 f w b hlt (fun hok => ih (b + 1) (by omega) (fun k x hkb hx => ?_)) (by omega) _ 0 (Nat.le_refl _) (fun k x hk0 => by omega)
    by_cases e : k = b
    · subst e
      rw [List.getElem?_eq_getElem hlt] at hx
      obtain rfl := Option.some.inj hx
      exact hok
    · exact hk k x (by omega) hx
def VarsTo (f0 f1 : List Int) (f2 : Int) (i : Nat) : Prop := ∀ (j : Nat) x b, j < i → f0[j]? = some x → f1[j]? = some b → (0 ≤ x ∧ x ≤ 2) ∧ ((j : Int) < f2 → x ≠ 2) ∧ (x ≠ 2 → b = -1) ∧ (x = 2 → 0 ≤ b ∧ b < (f0.length : Int) ∧ f0[b.toNat]? = some 1)
theorem VarsTo.all {f0 f1 : List Int} {f2 : Int} (h : VarsTo f0 f1 f2 f0.length) (hl : f1.length = f0.length) : OkVars f0 f1 f2 := by
  have key : ∀ (i : Nat) x, f0[i]? = some x → ∃ b, f1[i]? = some b := by
    intro i x hx
    have := (List.getElem?_eq_some_iff.1 hx).1
    exact ⟨_, List.getElem?_eq_getElem (by omega)⟩
  refine ⟨hl, fun x hx => ?_, fun i x hx hi => ?_, fun i x b hx hb => ?_⟩
  · obtain ⟨i, hi⟩ := List.mem_iff_getElem?.1 hx
    obtain ⟨b, hb⟩ := key i x hi
    exact (h i x b (List.getElem?_eq_some_iff.1 hi).1 hi hb).1
  · obtain ⟨b, hb⟩ := key i x hx
    exact (h i x b (List.getElem?_eq_some_iff.1 hx).1 hx hb).2.1 hi
  · exact (h i x b (List.getElem?_eq_some_iff.1 hx).1 hx hb).2.2
theorem func_l0 (f : S30) (w : W30 f) (hl : f.f1.length = f.f0.length) (h48 : f.f0.length ≤ 48) : ∀ (d i : Nat), f.f0.length - i ≤ d → i ≤ f.f0.length → VarsTo f.f0 f.f1 f.f2 i → Gives (fun k => portolanref04_Func.l0 k (f.f0.length : Int) (i : Int) f.f0 f.f1 f.f2 f.f3 f.f4) (fun r => r = true → OkVars f.f0 f.f1 f.f2 ∧ ∀ x ∈ f.f4, OkBlock x.f0) := by
  have fin : ∀ i : Nat, f.f0.length ≤ i → i ≤ f.f0.length → VarsTo f.f0 f.f1 f.f2 i → Gives (fun k => portolanref04_Func.l1 k 0 f.f0 f.f1 f.f2 f.f3 f.f4) (fun r => r = true → OkVars f.f0 f.f1 f.f2 ∧ ∀ x ∈ f.f4, OkBlock x.f0) := by
    intro i h1 h2 hv
    obtain rfl : i = f.f0.length := by omega
    exact (func_l1 f w _ 0 (Nat.le_refl _) (fun k x hk0 => by omega)).mono (fun r hr h => ⟨hv.all hl, hr h⟩)
  intro d
  induction d with
  | zero =>
    intro i hi hi2 hv
    refine Gives.step (fun _ => rfl) ?_
    simp only [portolanref04_Func.l0]
    exact Gives.neg (by omega) (fin i (by omega) hi2 hv)
  | succ d ih =>
    intro i hi hi2 hv
    refine Gives.step (fun _ => rfl) ?_
    simp only [portolanref04_Func.l0]
    refine Gives.ite (fun h1 => ?_) (fun h1 => fin i (by omega) hi2 hv)
    have hlt : i < f.f0.length := by omega
    have hlt1 : i < f.f1.length := by omega
    rw [rd_at hlt]
    have stop : Gives (fun k => portolanref04_Func.j2 k (f.f0.length : Int) (i : Int) true f.f0 f.f1 f.f2 f.f3 f.f4) (fun r => r = true → OkVars f.f0 f.f1 f.f2 ∧ ∀ x ∈ f.f4, OkBlock x.f0) := by
      refine Gives.step (fun _ => rfl) ?_
      simp only [portolanref04_Func.j2]
      exact Gives.pos trivial (Gives.now (by simp))
    have go : (0 ≤ f.f0[i] ∧ f.f0[i] ≤ 2) → ((i : Int) < f.f2 → f.f0[i] ≠ 2) → Gives (fun k => portolanref04_Func.j2 k (f.f0.length : Int) (i : Int) false f.f0 f.f1 f.f2 f.f3 f.f4) (fun r => r = true → OkVars f.f0 f.f1 f.f2 ∧ ∀ x ∈ f.f4, OkBlock x.f0) := by
      intro g1 g2
      have next : (f.f0[i] ≠ 2 → f.f1[i] = -1) → (f.f0[i] = 2 → 0 ≤ f.f1[i] ∧ f.f1[i] < (f.f0.length : Int) ∧ f.f0[f.f1[i].toNat]? = some 1) → Gives (fun k => portolanref04_Func.l0 k (f.f0.length : Int) (wrap64 ((i : Int) + 1)) f.f0 f.f1 f.f2 f.f3 f.f4) (fun r => r = true → OkVars f.f0 f.f1 f.f2 ∧ ∀ x ∈ f.f4, OkBlock x.f0) := by
        intro g3 g4
        rw [w1 (by omega)]
        refine ih (i + 1) (by omega) (by omega) (fun j x b hj hx hb => ?_)
        by_cases e : j = i
        · subst e
          rw [List.getElem?_eq_getElem hlt] at hx
          rw [List.getElem?_eq_getElem hlt1] at hb
          obtain rfl := Option.some.inj hx
          obtain rfl := Option.some.inj hb
          exact ⟨g1, g2, g3, g4⟩
        · exact hv j x b (by omega) hx hb
      refine Gives.step (fun _ => rfl) ?_
      simp only [portolanref04_Func.j2]
      refine Gives.neg (by simp) (Gives.pos (by omega) (Gives.pos (by omega) ?_))
      rw [rd_at hlt, rd_at hlt1]
      refine Gives.ite (fun h2 => Gives.pos (by omega) ?_) (fun h2 => Gives.pos (by omega) (Gives.ite (fun h3 => next (fun _ => h3) (fun h => absurd h h2)) (fun _ => Gives.now (by simp))))
      rw [show wrap64 ((f.f0.length : Int) - 1) = (f.f0.length : Int) - 1 from wid (by omega) (by omega)]
      refine Gives.bind (within_gives _ _ _) (fun a ha => Gives.ite (fun h3 => ?_) (fun _ => Gives.now (by simp)))
      have h4 := ha.1 h3
      have hb : f.f1[i].toNat < f.f0.length := by omega
      refine Gives.pos (by omega) (Gives.pos (by omega) (Gives.ite (fun h5 => ?_) (fun _ => Gives.now (by simp))))
      have e : rd f.f0 f.f1[i] = f.f0[f.f1[i].toNat] := by
        have := rd_at hb
        rwa [Int.toNat_of_nonneg h4.1] at this
      rw [e] at h5
      exact next (fun h => absurd h2 h) (fun _ => ⟨h4.1, by omega, by rw [List.getElem?_eq_getElem hb, h5]⟩)
    refine Gives.pos (by omega) (Gives.pos (by omega) (Gives.bind (within_gives _ _ _) (fun a ha => Gives.ite (fun h2 => ?_) (fun _ => stop))))
    have h3 := ha.1 h2
    refine Gives.ite (fun h4 => ?_) (fun h4 => go h3 (fun h => absurd h h4))
    cases hc : (f.f0[i] == 2) with
    | true => exact stop
    | false => exact go h3 (fun _ => by simpa using hc)
theorem func_gives (f : S30) (w : W30 f) : Gives (fun k => portolanref04_Func.f k f.f0 f.f1 f.f2 f.f3 f.f4) (fun r => r = true → OkFunc f) := by
  have stop : Gives (fun k => portolanref04_Func.j0 k (f.f0.length : Int) true f.f0 f.f1 f.f2 f.f3 f.f4) (fun r => r = true → OkFunc f) := by
    refine Gives.step (fun _ => rfl) ?_
    simp only [portolanref04_Func.j0]
    exact Gives.pos trivial (Gives.now (by simp))
  unfold portolanref04_Func.f
  refine Gives.ite (fun _ => stop) (fun h1 => Gives.ite (fun h2 => ?_) (fun _ => stop))
  refine Gives.bind (within_gives _ _ _) (fun a ha => Gives.ite (fun h3 => ?_) (fun _ => stop))
  refine Gives.bind (within_gives _ _ _) (fun b hb => Gives.ite (fun h4 => ?_) (fun _ => stop))
  refine Gives.bind (within_gives _ _ _) (fun c hc => ?_)
  cases c with
  | false => exact stop
  | true =>
    have h5 := ha.1 h3
    have h6 := hb.1 h4
    have h7 := hc.1 rfl
    have h8 : mn 4 (f.f0.length : Int) ≤ 4 ∧ mn 4 (f.f0.length : Int) ≤ (f.f0.length : Int) := by unfold mn; split <;> omega
    refine Gives.step (fun _ => rfl) ?_
    simp only [portolanref04_Func.j0]
    refine Gives.neg (by simp) ?_
    exact (func_l0 f w (by omega) (by omega) _ 0 (Nat.le_refl _) (Nat.zero_le _) (fun j x b hj => by omega)).mono (fun r hr h => ⟨by omega, (hr h).1, h5.1, by omega, by omega, by omega, by omega, by omega, (hr h).2⟩)
def letters (op : Int) : List UInt8 :=
  if op = 1 then [68, 110] else if op = 2 ∨ op = 8 ∨ op = 17 then [68, 65] else if op = 3 ∨ op = 4 ∨ op = 5 ∨ op = 6 ∨ op = 9 then [68, 65, 66] else if op = 7 then [68] else if op = 10 then [68, 78, 77]
  else if op = 11 ∨ op = 13 ∨ op = 15 then [68, 65, 78] else if op = 12 ∨ op = 14 then [65, 78, 66] else if op = 16 then [68, 65, 110] else if op = 18 then [65, 66] else if op = 19 then [68, 78, 76]
  else if op = 20 ∨ op = 23 then [65] else if op = 21 then [78] else if op = 22 then [65, 78, 77] else []
def has (op c : Int) : Bool := (letters op).any fun u => (u.toNat : Int) == c
theorem letters_len (op : Int) : (letters op).length ≤ 3 := by
  have key : ∀ {c : Prop} [Decidable c] {a b : List UInt8}, a.length ≤ 3 → b.length ≤ 3 → (if c then a else b).length ≤ 3 := by
    intro c _ a b h1 h2
    split <;> assumption
  unfold letters
  repeat' (refine key ?_ ?_)
  all_goals decide
theorem parts_eq (k : Nat) (op : Int) : portolanref03_Parts.f (k + 6) op = some ⟨(letters op).toArray⟩ := by
  by_cases h : 1 ≤ op ∧ op ≤ 23
  · have : op = 1 ∨ op = 2 ∨ op = 3 ∨ op = 4 ∨ op = 5 ∨ op = 6 ∨ op = 7 ∨ op = 8 ∨ op = 9 ∨ op = 10 ∨ op = 11 ∨ op = 12 ∨ op = 13 ∨ op = 14 ∨ op = 15 ∨ op = 16 ∨ op = 17 ∨ op = 18 ∨ op = 19 ∨ op = 20 ∨ op = 21 ∨ op = 22 ∨ op = 23 := by omega
    rcases this with rfl | rfl | rfl | rfl | rfl | rfl | rfl | rfl | rfl | rfl | rfl | rfl | rfl | rfl | rfl | rfl | rfl | rfl | rfl | rfl | rfl | rfl | rfl <;>
      simp [portolanref03_Parts.f, portolanref03_Parts.j0, portolanref03_Parts.j1, portolanref03_Parts.j2, portolanref03_Parts.j3, portolanref03_Parts.j4, letters]
  · have ne : ∀ i : Int, 1 ≤ i → i ≤ 23 → ¬ op = i := fun i h1 h2 e => h (by omega)
    simp [portolanref03_Parts.f, portolanref03_Parts.j0, portolanref03_Parts.j1, portolanref03_Parts.j2, portolanref03_Parts.j3, portolanref03_Parts.j4, letters, ne]
theorem bt_letter {l : List UInt8} {i : Nat} (h : i < l.length) : bt ⟨l.toArray⟩ (i : Int) = (l[i].toNat : Int) := by
  rw [← bt_at ⟨l.toArray⟩ (i : Int) (by rw [Int.toNat_natCast]; exact h)]
  simp only [Int.toNat_natCast]
  rfl
theorem has_l0 (c : Int) (l : List UInt8) (hl : l.length ≤ 3) : ∀ (d i k : Nat), l.length - i ≤ d → d < k → portolanref04_has.l0 k c ⟨l.toArray⟩ (i : Int) = some ((l.drop i).any fun u => (u.toNat : Int) == c)
  | d, i, 0, _, h => by omega
  | d, i, k + 1, hd, hk => by
    have hs : (ByteArray.size ⟨l.toArray⟩) = l.length := rfl
    simp only [portolanref04_has.l0]
    rw [hs]
    by_cases h : i < l.length
    · rw [if_pos (by omega), if_pos (by omega), bt_letter h, List.drop_eq_getElem_cons h, List.any_cons]
      by_cases e : (l[i].toNat : Int) = c
      · rw [if_pos e]
        simp [e]
      · rw [if_neg e, w1 (by omega), has_l0 c l hl (d - 1) (i + 1) k (by omega) (by omega)]
        have : ((l[i].toNat : Int) == c) = false := by simpa using e
        rw [this, Bool.false_or]
    · rw [if_neg (by omega), List.drop_of_length_le (by omega)]
      rfl
theorem has_eq (k : Nat) (op c : Int) : portolanref04_has.f (k + 9) op c = some (has op c) := by
  unfold portolanref04_has.f
  rw [show k + 9 = (k + 3) + 6 from rfl, parts_eq, Option.bind_some]
  have h3 := letters_len op
  exact has_l0 c (letters op) h3 3 0 (k + 3 + 6) (by omega) (by omega)
theorem has_gives (op c : Int) : Gives (fun k => portolanref04_has.f k op c) (fun r => r = has op c) :=
  ⟨has op c, ⟨9, fun k hk => by obtain ⟨m, rfl⟩ : ∃ m, k = m + 9 := ⟨k - 9, by omega⟩; exact has_eq m op c⟩, rfl⟩
theorem parts_gives (op : Int) : Gives (fun k => portolanref03_Parts.f k op) (fun r => r = ⟨(letters op).toArray⟩) :=
  ⟨_, ⟨6, fun k hk => by obtain ⟨m, rfl⟩ : ∃ m, k = m + 6 := ⟨k - 6, by omega⟩; exact parts_eq m op⟩, rfl⟩
def usesL (x : S52) : List Int := (if has x.f0 65 = true then [x.f2] else []) ++ (if has x.f0 66 = true then [x.f3] else []) ++ (if has x.f0 76 = true then x.f6 else [])
theorem uses_gives (x : S52) (w : W52 x) : Gives (fun k => portolanref04_Uses.f k x.f0 x.f1 x.f2 x.f3 x.f4 x.f5 x.f6) (fun r => r = usesL x) := by
  have h6 := w.n6
  have tail : ∀ l : List Int, l.length ≤ 1 → Gives (fun k => portolanref04_Uses.j0 k l x.f0 x.f1 x.f2 x.f3 x.f4 x.f5 x.f6) (fun r => r = l ++ (if has x.f0 66 = true then [x.f3] else []) ++ (if has x.f0 76 = true then x.f6 else [])) := by
    intro l hl
    refine Gives.step (fun _ => rfl) ?_
    simp only [portolanref04_Uses.j0]
    refine Gives.bind (has_gives _ _) (fun a ha => ?_)
    subst ha
    refine Gives.ite (fun h => Gives.pos (by omega) (Gives.some_bind ?_)) (fun h => ?_)
    · refine Gives.bind (has_gives _ _) (fun a ha => ?_)
      subst ha
      refine Gives.ite (fun h2 => Gives.pos (by simp only [List.length_append, List.length_cons, List.length_nil]; omega) (Gives.now ?_)) (fun h2 => Gives.now ?_)
      · rw [if_pos h, if_pos h2]
      · rw [if_pos h, if_neg h2, List.append_nil]
    · refine Gives.bind (has_gives _ _) (fun a ha => ?_)
      subst ha
      refine Gives.ite (fun h2 => Gives.pos (by omega) (Gives.now ?_)) (fun h2 => Gives.now ?_)
      · rw [if_neg h, if_pos h2, List.append_nil]
      · rw [if_neg h, if_neg h2, List.append_nil, List.append_nil]
  unfold portolanref04_Uses.f
  refine Gives.bind (has_gives _ _) (fun a ha => ?_)
  subst ha
  unfold usesL
  refine Gives.ite (fun h => Gives.pos (by simp) ?_) (fun h => ?_)
  · rw [if_pos h]
    exact tail _ (by simp)
  · rw [if_neg h]
    exact tail _ (by simp)
theorem sets_gives (x : S52) : Gives (fun k => portolanref04_Sets.f k x.f0 x.f1 x.f2 x.f3 x.f4 x.f5 x.f6) (fun r => r = if has x.f0 68 = true then (x.f1, true) else (0, false)) := by
  unfold portolanref04_Sets.f
  refine Gives.bind (has_gives _ _) (fun a ha => ?_)
  subst ha
  exact Gives.ite (fun h => Gives.now (by rw [if_pos h])) (fun h => Gives.now (by rw [if_neg h]))
def leads (x : S52) : List Int := if x.f0 = 21 then [x.f4] else if x.f0 = 22 then (if x.f4 = x.f5 then [x.f4] else [mn x.f4 x.f5, mx x.f4 x.f5]) else []
theorem leads_len (x : S52) : (leads x).length ≤ 2 := by
  unfold leads
  repeat' split
  all_goals simp
theorem next_is (x : S52) : portolanref04_Next.f x.f0 x.f1 x.f2 x.f3 x.f4 x.f5 x.f6 = some (leads x) := by
  unfold portolanref04_Next.f leads
  repeat' split
  all_goals rfl
structure OkNums (p : List S30) (x : S52) : Prop where
  call : x.f0 = 19 → 0 ≤ x.f4 ∧ x.f4 < (p.length : Int) ∧ (x.f6.length : Int) = (rd_T30 p x.f4).f2
  const : x.f0 = 1 → -2147483648 ≤ x.f4 ∧ x.f4 ≤ 2147483648
  shift : x.f0 = 16 → -8 ≤ x.f4 ∧ x.f4 ≤ 8
  alloc : x.f0 = 10 → 0 ≤ x.f4 ∧ x.f4 ≤ 8 ∧ 0 ≤ x.f5 ∧ x.f5 ≤ 8
  field : x.f0 = 11 ∨ x.f0 = 12 ∨ x.f0 = 13 ∨ x.f0 = 14 ∨ x.f0 = 15 → 0 ≤ x.f4 ∧ x.f4 ≤ 7
structure OkIns (p : List S30) (f : S30) (x : S52) : Prop where
  known : letters x.f0 ≠ []
  bare : H.bareB (has x.f0) x.f1 x.f2 x.f3 x.f4 x.f5 x.f6.length = true
  uses : ∀ v ∈ usesL x, 0 ≤ v ∧ v < (f.f0.length : Int)
  sets : has x.f0 68 = true → 0 ≤ x.f1 ∧ x.f1 < (f.f0.length : Int)
  next : ∀ b ∈ leads x, 1 ≤ b ∧ b < (f.f4.length : Int)
  nums : OkNums p x
theorem bare_is (x : S52) : portolanref04_bare.f x.f0 x.f1 x.f2 x.f3 x.f4 x.f5 x.f6 = some (H.bareB (has x.f0) x.f1 x.f2 x.f3 x.f4 x.f5 x.f6.length) := by
  unfold portolanref04_bare.f
  have e : ∀ c, portolanref04_has.f 9 x.f0 c = some (has x.f0 c) := fun c => has_eq 0 x.f0 c
  simp only [e, Option.isSome_some, Option.getD_some, List.all_cons, List.all_nil, Bool.and_self, if_true]
theorem ins_l1 (p : List S30) (wp : WP p) (f : S30) (w : W30 f) (x : S52) : ∀ (d j : Nat), (leads x).length - j ≤ d → (∀ (i : Nat) b, i < j → (leads x)[i]? = some b → 1 ≤ b ∧ b < (f.f4.length : Int)) →
    Gives (fun k => portolanref04_Ins.l1 k (leads x) (j : Int) p x.f0 x.f1 x.f2 x.f3 x.f4 x.f5 x.f6 f.f0 f.f1 f.f2 f.f3 f.f4) (fun r => r = true → (∀ b ∈ leads x, 1 ≤ b ∧ b < (f.f4.length : Int)) ∧ OkNums p x) := by
  have hp := wp.n
  have h4 := w.n4
  have h2 := leads_len x
  have fin : ∀ j : Nat, (leads x).length ≤ j → (∀ (i : Nat) b, i < j → (leads x)[i]? = some b → 1 ≤ b ∧ b < (f.f4.length : Int)) → ∀ b ∈ leads x, 1 ≤ b ∧ b < (f.f4.length : Int) := by
    intro j hj h b hb
    obtain ⟨i, hi⟩ := List.mem_iff_getElem?.1 hb
    exact h i b (by have := (List.getElem?_eq_some_iff.1 hi).1; omega) hi
  intro d
  induction d with
  | zero =>
    intro j hj hjs
    have hb := fin j (by omega) hjs
    refine Gives.step (fun _ => rfl) ?_
    simp only [portolanref04_Ins.l1]
    refine Gives.neg (by omega) ?_
    rw [show wrap64 ((p.length : Int) - 1) = (p.length : Int) - 1 from wid (by omega) (by omega)]
    refine Gives.ite (fun e => Gives.bind (within_gives _ _ _) (fun a ha => Gives.ite (fun h => ?_) (fun _ => Gives.now (by simp)))) (fun n19 => ?_)
    · have h3 := ha.1 h
      refine Gives.pos (by omega) (Gives.pos (by omega) (Gives.now fun hr => ⟨hb, ⟨fun _ => ⟨h3.1, by omega, by simpa using hr⟩, fun h => by omega, fun h => by omega, fun h => by omega, fun h => by omega⟩⟩))
    refine Gives.ite (fun e => Gives.bind (within_gives _ _ _) (fun a ha => Gives.now fun hr => ⟨hb, ⟨fun h => by omega, fun _ => ha.1 hr, fun h => by omega, fun h => by omega, fun h => by omega⟩⟩)) (fun n1 => ?_)
    refine Gives.ite (fun e => Gives.bind (within_gives _ _ _) (fun a ha => Gives.now fun hr => ⟨hb, ⟨fun h => by omega, fun h => by omega, fun _ => ha.1 hr, fun h => by omega, fun h => by omega⟩⟩)) (fun n16 => ?_)
    refine Gives.ite (fun e => Gives.bind (within_gives _ _ _) (fun a ha => Gives.ite (fun h => Gives.bind (within_gives _ _ _) (fun a2 ha2 => Gives.now fun hr => ⟨hb, ⟨fun h => by omega, fun h => by omega, fun h => by omega, fun _ => ⟨(ha.1 h).1, (ha.1 h).2, (ha2.1 hr).1, (ha2.1 hr).2⟩, fun h => by omega⟩⟩)) (fun _ => Gives.now (by simp)))) (fun n10 => ?_)
    refine Gives.ite (fun e => Gives.bind (within_gives _ _ _) (fun a ha => Gives.now fun hr => ⟨hb, ⟨fun h => by omega, fun h => by omega, fun h => by omega, fun h => by omega, fun _ => ha.1 hr⟩⟩)) (fun n11 => ?_)
    refine Gives.ite (fun e => Gives.bind (within_gives _ _ _) (fun a ha => Gives.now fun hr => ⟨hb, ⟨fun h => by omega, fun h => by omega, fun h => by omega, fun h => by omega, fun _ => ha.1 hr⟩⟩)) (fun n12 => ?_)
    refine Gives.ite (fun e => Gives.bind (within_gives _ _ _) (fun a ha => Gives.now fun hr => ⟨hb, ⟨fun h => by omega, fun h => by omega, fun h => by omega, fun h => by omega, fun _ => ha.1 hr⟩⟩)) (fun n13 => ?_)
    refine Gives.ite (fun e => Gives.bind (within_gives _ _ _) (fun a ha => Gives.now fun hr => ⟨hb, ⟨fun h => by omega, fun h => by omega, fun h => by omega, fun h => by omega, fun _ => ha.1 hr⟩⟩)) (fun n14 => ?_)
    refine Gives.ite (fun e => Gives.bind (within_gives _ _ _) (fun a ha => Gives.now fun hr => ⟨hb, ⟨fun h => by omega, fun h => by omega, fun h => by omega, fun h => by omega, fun _ => ha.1 hr⟩⟩)) (fun n15 => ?_)
    exact Gives.now fun _ => ⟨hb, ⟨fun h => by omega, fun h => by omega, fun h => by omega, fun h => by omega, fun h => by omega⟩⟩
  | succ d ih =>
    intro j hj hjs
    by_cases hlt : j < (leads x).length
    · refine Gives.step (fun _ => rfl) ?_
      simp only [portolanref04_Ins.l1]
      refine Gives.pos (by omega) (Gives.pos (by omega) ?_)
      rw [rd_at hlt, w1 (by omega), show wrap64 ((f.f4.length : Int) - 1) = (f.f4.length : Int) - 1 from wid (by omega) (by omega)]
      refine Gives.bind (within_gives _ _ _) (fun a ha => Gives.ite (fun h => ?_) (fun _ => Gives.now (by simp)))
      refine ih (j + 1) (by omega) (fun i b hi hb => ?_)
      by_cases e : i = j
      · subst e
        rw [List.getElem?_eq_getElem hlt] at hb
        obtain rfl := Option.some.inj hb
        have := ha.1 h
        omega
      · exact hjs i b (by omega) hb
    · exact ih j (by omega) hjs
theorem ins_l0 (p : List S30) (wp : WP p) (f : S30) (w : W30 f) (x : S52) (l : List Int) (hl : l.length ≤ 17592186044416) : ∀ (d j : Nat), l.length - j ≤ d → (∀ (i : Nat) b, i < j → l[i]? = some b → 0 ≤ b ∧ b < (f.f0.length : Int)) →
    Gives (fun k => portolanref04_Ins.l0 k l (j : Int) p x.f0 x.f1 x.f2 x.f3 x.f4 x.f5 x.f6 f.f0 f.f1 f.f2 f.f3 f.f4) (fun r => r = true → (∀ v ∈ l, 0 ≤ v ∧ v < (f.f0.length : Int)) ∧ (∀ b ∈ leads x, 1 ≤ b ∧ b < (f.f4.length : Int)) ∧ OkNums p x) := by
  have h0 := w.n0
  have fin : ∀ j : Nat, l.length ≤ j → (∀ (i : Nat) b, i < j → l[i]? = some b → 0 ≤ b ∧ b < (f.f0.length : Int)) → ∀ b ∈ l, 0 ≤ b ∧ b < (f.f0.length : Int) := by
    intro j hj h b hb
    obtain ⟨i, hi⟩ := List.mem_iff_getElem?.1 hb
    exact h i b (by have := (List.getElem?_eq_some_iff.1 hi).1; omega) hi
  intro d
  induction d with
  | zero =>
    intro j hj hjs
    refine Gives.step (fun _ => rfl) ?_
    simp only [portolanref04_Ins.l0]
    refine Gives.neg (by omega) ?_
    rw [next_is]
    refine Gives.some_bind ?_
    exact (ins_l1 p wp f w x _ 0 (Nat.le_refl _) (fun i b hi => by omega)).mono (fun r h hr => ⟨fin j (by omega) hjs, h hr⟩)
  | succ d ih =>
    intro j hj hjs
    by_cases hlt : j < l.length
    · refine Gives.step (fun _ => rfl) ?_
      simp only [portolanref04_Ins.l0]
      refine Gives.pos (by omega) (Gives.pos (by omega) ?_)
      rw [rd_at hlt, w1 (by omega), show wrap64 ((f.f0.length : Int) - 1) = (f.f0.length : Int) - 1 from wid (by omega) (by omega)]
      refine Gives.bind (within_gives _ _ _) (fun a ha => Gives.ite (fun h => ?_) (fun _ => Gives.now (by simp)))
      refine ih (j + 1) (by omega) (fun i b hi hb => ?_)
      by_cases e : i = j
      · subst e
        rw [List.getElem?_eq_getElem hlt] at hb
        obtain rfl := Option.some.inj hb
        have := ha.1 h
        omega
      · exact hjs i b (by omega) hb
    · exact ih j (by omega) hjs
theorem usesL_len (x : S52) (w : W52 x) : (usesL x).length ≤ 17592186043906 := by
  have h6 := w.n6
  unfold usesL
  simp only [List.length_append]
  repeat' split
  all_goals simp only [List.length_cons, List.length_nil]
  all_goals omega
theorem ins_gives (p : List S30) (wp : WP p) (n : Nat) (hn : n < p.length) (x : S52) (w : W52 x) : Gives (fun k => portolanref04_Ins.f k p (n : Int) x.f0 x.f1 x.f2 x.f3 x.f4 x.f5 x.f6) (fun r => r = true → OkIns p p[n] x) := by
  have hp := wp.n
  have hu := usesL_len x w
  have stop : Gives (fun k => portolanref04_Ins.j0 k (n : Int) true p x.f0 x.f1 x.f2 x.f3 x.f4 x.f5 x.f6) (fun r => r = true → OkIns p p[n] x) := by
    refine Gives.step (fun _ => rfl) ?_
    simp only [portolanref04_Ins.j0]
    exact Gives.pos trivial (Gives.now (by simp))
  unfold portolanref04_Ins.f
  refine Gives.bind (within_gives _ _ _) (fun a ha => Gives.ite (fun h => ?_) (fun _ => stop))
  refine Gives.bind (parts_gives _) (fun s hs => ?_)
  subst hs
  refine Gives.ite (fun _ => stop) (fun hk => ?_)
  rw [bare_is]
  refine Gives.some_bind ?_
  cases hb : H.bareB (has x.f0) x.f1 x.f2 x.f3 x.f4 x.f5 x.f6.length with
  | false => exact stop
  | true =>
    refine Gives.step (fun _ => rfl) ?_
    simp only [portolanref04_Ins.j0]
    refine Gives.neg (by simp) (Gives.pos (by omega) (Gives.pos (by omega) ?_))
    rw [rdS30_at hn]
    refine Gives.bind (uses_gives x w) (fun u hu2 => Gives.bind (sets_gives x) (fun v hv => ?_))
    subst hu2
    subst hv
    have known : letters x.f0 ≠ [] := by
      intro e
      apply hk
      rw [e]
      unfold ByteArray.toList ByteArray.toList.loop
      rfl
    by_cases h68 : has x.f0 68 = true
    · rw [if_pos h68]
      refine Gives.pos rfl (Gives.pos (by omega) ?_)
      refine Gives.step (fun _ => rfl) ?_
      simp only [portolanref04_Ins.j1]
      refine (ins_l0 p wp p[n] (wp.w _ (List.getElem_mem hn)) x (usesL x ++ [x.f1]) (by simp only [List.length_append, List.length_cons, List.length_nil]; omega) _ 0 (Nat.le_refl _) (fun i b hi => by omega)).mono (fun r h hr => ?_)
      have h3 := h hr
      exact ⟨known, hb, fun v hv => h3.1 v (by simp [hv]), fun _ => h3.1 _ (by simp), h3.2.1, h3.2.2⟩
    · rw [if_neg h68]
      refine Gives.neg (by simp) ?_
      refine Gives.step (fun _ => rfl) ?_
      simp only [portolanref04_Ins.j1]
      refine (ins_l0 p wp p[n] (wp.w _ (List.getElem_mem hn)) x (usesL x) (by omega) _ 0 (Nat.le_refl _) (fun i b hi => by omega)).mono (fun r h hr => ?_)
      have h3 := h hr
      exact ⟨known, hb, h3.1, fun h => absurd h h68, h3.2.1, h3.2.2⟩
structure OkProg (p : List S30) : Prop where
  lo : 1 ≤ p.length
  hi : p.length ≤ 8
  fst : (rd_T30 p 0).f2 = 0 ∧ (rd_T30 p 0).f3 = 0
  fn : ∀ f ∈ p, OkFunc f
  ins : ∀ f ∈ p, ∀ b ∈ f.f4, ∀ x ∈ b.f0, OkIns p f x
def FuncTo (p : List S30) (n : Nat) : Prop := ∀ (i : Nat) f, i < n → p[i]? = some f → OkFunc f ∧ ∀ b ∈ f.f4, ∀ x ∈ b.f0, OkIns p f x
theorem check_l2 (p : List S30) (wp : WP p) (n : Nat) (hn : n < p.length) {Q : Prop} (b : Nat) (hb : b < p[n].f4.length) (H : (∀ x ∈ p[n].f4[b].f0, OkIns p p[n] x) → Gives (fun k => portolanref04_Check.l1 k (n : Int) ((b + 1 : Nat) : Int) p p[n].f0 p[n].f1 p[n].f2 p[n].f3 p[n].f4) (fun r => r = 0 → Q)) :
    ∀ (d j : Nat), p[n].f4[b].f0.length - j ≤ d → (∀ (i : Nat) x, i < j → p[n].f4[b].f0[i]? = some x → OkIns p p[n] x) → Gives (fun k => portolanref04_Check.l2 k (n : Int) (b : Int) (j : Int) p p[n].f0 p[n].f1 p[n].f2 p[n].f3 p[n].f4) (fun r => r = 0 → Q) := by
  have wf := wp.w _ (List.getElem_mem hn)
  have wb := wf.w4 _ (List.getElem_mem hb)
  have h4 := wf.n4
  have h0 := wb.n0
  intro d
  induction d with
  | zero =>
    intro j hj hjs
    refine Gives.step (fun _ => rfl) ?_
    simp only [portolanref04_Check.l2]
    rw [rdS50_at hb]
    refine Gives.pos (by omega) (Gives.pos (by omega) (Gives.neg (by omega) ?_))
    rw [w1 (by omega)]
    refine H (fun x hx => ?_)
    obtain ⟨i, hi⟩ := List.mem_iff_getElem?.1 hx
    exact hjs i x (by have := (List.getElem?_eq_some_iff.1 hi).1; omega) hi
  | succ d ih =>
    intro j hj hjs
    by_cases hlt : j < p[n].f4[b].f0.length
    · refine Gives.step (fun _ => rfl) ?_
      simp only [portolanref04_Check.l2]
      rw [rdS50_at hb]
      refine Gives.pos (by omega) (Gives.pos (by omega) (Gives.pos (by omega) (Gives.pos (by omega) ?_)))
      rw [rdS52_at hlt, w1 (by omega)]
      refine Gives.bind (ins_gives p wp n hn _ (wb.w0 _ (List.getElem_mem hlt))) (fun a ha => Gives.ite (fun h => ?_) (fun _ => Gives.now (by simp)))
      refine ih (j + 1) (by omega) (fun i x hi hx => ?_)
      by_cases e : i = j
      · subst e
        rw [List.getElem?_eq_getElem hlt] at hx
        obtain rfl := Option.some.inj hx
        exact ha h
      · exact hjs i x (by omega) hx
    · exact ih j (by omega) hjs
theorem check_l1 (p : List S30) (wp : WP p) (n : Nat) (hn : n < p.length) {Q : Prop} (H : (∀ b ∈ p[n].f4, ∀ x ∈ b.f0, OkIns p p[n] x) → Gives (fun k => portolanref04_Check.l0 k ((n + 1 : Nat) : Int) p) (fun r => r = 0 → Q)) :
    ∀ (d b : Nat), p[n].f4.length - b ≤ d → (∀ (i : Nat) y, i < b → p[n].f4[i]? = some y → ∀ x ∈ y.f0, OkIns p p[n] x) → Gives (fun k => portolanref04_Check.l1 k (n : Int) (b : Int) p p[n].f0 p[n].f1 p[n].f2 p[n].f3 p[n].f4) (fun r => r = 0 → Q) := by
  have wf := wp.w _ (List.getElem_mem hn)
  have h4 := wf.n4
  have hp := wp.n
  intro d
  induction d with
  | zero =>
    intro b hb hbs
    refine Gives.step (fun _ => rfl) ?_
    simp only [portolanref04_Check.l1]
    refine Gives.neg (by omega) ?_
    rw [w1 (by omega)]
    refine H (fun y hy => ?_)
    obtain ⟨i, hi⟩ := List.mem_iff_getElem?.1 hy
    exact hbs i y (by have := (List.getElem?_eq_some_iff.1 hi).1; omega) hi
  | succ d ih =>
    intro b hb hbs
    by_cases hlt : b < p[n].f4.length
    · refine Gives.step (fun _ => rfl) ?_
      simp only [portolanref04_Check.l1]
      refine Gives.pos (by omega) ?_
      refine check_l2 p wp n hn b hlt (fun hx => ih (b + 1) (by omega) (fun i y hi hy => ?_)) _ 0 (Nat.le_refl _) (fun i x hi => by omega)
      by_cases e : i = b
      · subst e
        rw [List.getElem?_eq_getElem hlt] at hy
        obtain rfl := Option.some.inj hy
        exact hx
      · exact hbs i y (by omega) hy
    · exact ih b (by omega) hbs
theorem check_l0 (p : List S30) (wp : WP p) : ∀ (d n : Nat), p.length - n ≤ d → FuncTo p n → Gives (fun k => portolanref04_Check.l0 k (n : Int) p) (fun r => r = 0 → FuncTo p p.length) := by
  have hp := wp.n
  have fin : ∀ n : Nat, p.length ≤ n → FuncTo p n → FuncTo p p.length := fun n hn h i f hi => h i f (by omega)
  intro d
  induction d with
  | zero =>
    intro n hn hF
    refine Gives.step (fun _ => rfl) ?_
    simp only [portolanref04_Check.l0]
    exact Gives.neg (by omega) (Gives.now fun _ => fin n (by omega) hF)
  | succ d ih =>
    intro n hn hF
    by_cases hlt : n < p.length
    · refine Gives.step (fun _ => rfl) ?_
      simp only [portolanref04_Check.l0]
      refine Gives.pos (by omega) (Gives.pos (by omega) ?_)
      rw [rdS30_at hlt]
      refine Gives.bind (func_gives p[n] (wp.w _ (List.getElem_mem hlt))) (fun a ha => Gives.ite (fun h => ?_) (fun _ => Gives.now (by simp)))
      refine check_l1 p wp n hlt (fun hx => ih (n + 1) (by omega) (fun i f hi hf => ?_)) _ 0 (Nat.le_refl _) (fun i y hi => by omega)
      by_cases e : i = n
      · subst e
        rw [List.getElem?_eq_getElem hlt] at hf
        obtain rfl := Option.some.inj hf
        exact ⟨ha h, hx⟩
      · exact hF i f (by omega) hf
    · exact ih n (by omega) hF
theorem check_gives (p : List S30) (wp : WP p) : Gives (fun k => portolanref04_Check.f k p) (fun r => r = 0 → OkProg p) := by
  have stop : Gives (fun k => portolanref04_Check.j0 k true p) (fun r => r = 0 → OkProg p) := by
    refine Gives.step (fun _ => rfl) ?_
    simp only [portolanref04_Check.j0]
    exact Gives.pos trivial (Gives.now (by simp))
  unfold portolanref04_Check.f
  refine Gives.bind (within_gives _ _ _) (fun a ha => Gives.ite (fun h => ?_) (fun _ => stop))
  have h1 := ha.1 h
  refine Gives.pos (by omega) (Gives.ite (fun h2 => ?_) (fun _ => stop))
  cases hc : ((rd_T30 p 0).f3 != 0) with
  | true => exact stop
  | false =>
    refine Gives.step (fun _ => rfl) ?_
    simp only [portolanref04_Check.j0]
    refine Gives.neg (by simp) ?_
    refine (check_l0 p wp _ 0 (Nat.le_refl _) (fun i f hi => by omega)).mono (fun r hr h0 => ?_)
    have hF := hr h0
    refine ⟨by omega, by omega, ⟨h2, by simpa using hc⟩, fun f hf => ?_, fun f hf => ?_⟩
    · obtain ⟨i, hi⟩ := List.mem_iff_getElem?.1 hf
      exact (hF i f (List.getElem?_eq_some_iff.1 hi).1 hi).1
    · obtain ⟨i, hi⟩ := List.mem_iff_getElem?.1 hf
      exact (hF i f (List.getElem?_eq_some_iff.1 hi).1 hi).2
end Go.Proofs.Ytcknmcfomkbenaa.Pure
