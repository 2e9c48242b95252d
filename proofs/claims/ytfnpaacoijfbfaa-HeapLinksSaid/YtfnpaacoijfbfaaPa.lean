/- What the plain functions of layer 9 answer: rightness, greatness, new objects. -/
import Derived.Test.YtfnpaacoijfbfaaPXx4
import Derived.Test.YtfnpaacoijfbfaaPXx6
import Derived.Test.YtfnpaacoijfbfaaE
import Derived.Test.YtfnpaacoijfbfaaPC
namespace Go.Proofs.Ytfnpaacoijfbfaa.Pure
open Go.RowKit Go.Proofs.YtfnpaacoijfbfaaW.PrintWords Go.Proofs.YtfnpaacoijfbfaaW.PrintLast Go.Proofs.YtfnpaacoijfbfaaW.PrintMore Go.Proofs.Ytfnpaacoijfbfaa.PX Go.Proofs.Ytfnpaacoijfbfaa.E
theorem rdT_at {xs : List S47} {i : Nat} (h : i < xs.length) : rd_T47 xs (i : Int) = xs[i] := by
  unfold rd_T47
  rw [Int.toNat_natCast, List.getD_eq_getElem?_getD, List.getElem?_eq_getElem h]
  rfl
theorem ints_l0 (a b : List Int) (hl : a.length = b.length) (hb : a.length < 4611686018427387904) : ∀ n i, i + n = a.length → Ev (fun k => portolanref01_Ints.l0 k a b (i : Int)) (decide (a.drop i = b.drop i))
  | 0, i, h => by
    refine Ev.step (fun _ => rfl) ?_
    simp only [portolanref01_Ints.l0]
    refine Ev.neg (by omega) ?_
    rw [List.drop_of_length_le (by omega), List.drop_of_length_le (by omega)]
    exact Ev.now _
  | n + 1, i, h => by
    have h1 : i < a.length := by omega
    have h2 : i < b.length := by omega
    refine Ev.step (fun _ => rfl) ?_
    simp only [portolanref01_Ints.l0]
    refine Ev.pos (by omega) (Ev.pos (by omega) (Ev.pos (by omega) ?_))
    rw [rd_at h1, rd_at h2, w1 (by omega), List.drop_eq_getElem_cons h1, List.drop_eq_getElem_cons h2]
    by_cases e : a[i] = b[i]
    · refine Ev.pos e ?_
      rw [e, show decide (b[i] :: List.drop (i + 1) a = b[i] :: List.drop (i + 1) b) = decide (List.drop (i + 1) a = List.drop (i + 1) b) from by simp only [List.cons.injEq, true_and]]
      exact ints_l0 a b hl hb n (i + 1) (by omega)
    · refine Ev.neg e ?_
      rw [show decide (a[i] :: List.drop (i + 1) a = b[i] :: List.drop (i + 1) b) = false from decide_eq_false (fun h => e (List.cons.inj h).1)]
      exact Ev.now _
theorem ints (a b : List Int) (hb : a.length < 4611686018427387904) : Ev (fun k => portolanref01_Ints.f k a b) (decide (a = b)) := by
  simp only [portolanref01_Ints.f]
  by_cases hl : a.length = b.length
  · refine Ev.pos (by omega) ?_
    simpa using ints_l0 a b hl hb a.length 0 (by omega)
  · refine Ev.neg (by omega) ?_
    rw [show decide (a = b) = false from by simpa using fun e => hl (by rw [e])]
    exact Ev.now _
/-- How much a heap holds. -/
def parts (l : List S47) : Nat := (l.map fun o => o.f0.length + o.f1.length).sum
theorem parts_mem {l : List S47} {o : S47} (h : o ∈ l) : o.f0.length + o.f1.length ≤ parts l := by
  have : ∀ (l : List Nat) (x : Nat), x ∈ l → x ≤ l.sum := by
    intro l
    induction l with
    | nil => intro x hx; cases hx
    | cons a l ih =>
      intro x hx
      rw [List.sum_cons]
      rcases List.mem_cons.1 hx with rfl | hx
      · omega
      · have := ih x hx; omega
  exact this _ _ (List.mem_map_of_mem h)
theorem great_l0 (l : List S47) (hl : l.length < 4611686018427387904) (hs : ∀ o ∈ l, o.f0.length ≤ 17592186044416 ∧ o.f1.length ≤ 17592186044416) : ∀ n i (x : Nat), i + n = l.length → ∃ b, Ev (fun k => portolanref09_Great.l0 k (x : Int) (i : Int) l) b ∧ (b = false → x + parts (l.drop i) ≤ 300)
  | 0, i, x, h => by
    refine ⟨decide ((x : Int) > 300), ?_, ?_⟩
    · refine Ev.step (fun _ => rfl) ?_
      simp only [portolanref09_Great.l0]
      exact Ev.neg (by omega) (Ev.now _)
    · intro hb
      rw [List.drop_of_length_le (by omega)]
      have := of_decide_eq_false hb
      simp [parts]
      omega
  | n + 1, i, x, h => by
    have h1 : i < l.length := by omega
    by_cases hx3 : x ≤ 300
    · have ho := hs _ (List.getElem_mem h1)
      obtain ⟨b, hb, hb2⟩ := great_l0 l hl hs n (i + 1) (x + l[i].f0.length + l[i].f1.length) (by omega)
      refine ⟨b, ?_, ?_⟩
      · refine Ev.step (fun _ => rfl) ?_
        simp only [portolanref09_Great.l0]
        refine Ev.pos (by omega) (Ev.pos (by omega) (Ev.pos (by omega) ?_))
        rw [rdT_at h1, w1 (by omega), wid (x := (x : Int) + (l[i].f0.length : Int)) (by omega) (by omega), wid (by omega) (by omega)]
        have e : (x : Int) + (l[i].f0.length : Int) + (l[i].f1.length : Int) = ((x + l[i].f0.length + l[i].f1.length : Nat) : Int) := by omega
        rw [e]
        exact hb
      · intro hf
        have := hb2 hf
        rw [List.drop_eq_getElem_cons h1]
        unfold parts at *
        rw [List.map_cons, List.sum_cons]
        omega
    · refine ⟨decide ((x : Int) > 300), ?_, ?_⟩
      · refine Ev.step (fun _ => rfl) ?_
        simp only [portolanref09_Great.l0]
        exact Ev.pos (by omega) (Ev.neg (by omega) (Ev.now _))
      · intro hb
        have := of_decide_eq_false hb
        omega
theorem great (l : List S47) (hl : l.length < 4611686018427387904) (hs : ∀ o ∈ l, o.f0.length ≤ 17592186044416 ∧ o.f1.length ≤ 17592186044416) : ∃ b, Ev (fun k => portolanref09_Great.f k l) b ∧ (b = false → l.length + parts l ≤ 300) := by
  obtain ⟨b, h1, h2⟩ := great_l0 l hl hs l.length 0 l.length (by omega)
  exact ⟨b, h1, h2⟩
theorem right_l1 (l : List S47) (i : Nat) (f0 f1 : List Int) (b : Bool) (hf : f0.length < 4611686018427387904) (hn : Ev (fun k => portolanref09_Right.l0 k (wrap64 ((i : Int) + 1)) l) b) : ∀ n j, j + n = f0.length → Ev (fun k => portolanref09_Right.l1 k (i : Int) (j : Int) l f0 f1) (!(f0.drop j).any (H.badB l.length) && b)
  | 0, j, h => by
    refine Ev.step (fun _ => rfl) ?_
    simp only [portolanref09_Right.l1]
    refine Ev.neg (by omega) ?_
    rw [List.drop_of_length_le (by omega)]
    simpa using hn
  | n + 1, j, h => by
    have h1 : j < f0.length := by omega
    refine Ev.step (fun _ => rfl) ?_
    simp only [portolanref09_Right.l1]
    refine Ev.pos (by omega) (Ev.pos (by omega) ?_)
    rw [rd_at h1, w1 (by omega), List.drop_eq_getElem_cons h1, List.any_cons]
    by_cases c1 : f0[j] < 0
    · refine Ev.pos c1 ?_
      rw [show H.badB l.length f0[j] = true from by simp [H.badB, c1]]
      exact Ev.now _
    · refine Ev.neg c1 ?_
      by_cases c2 : f0[j] > (l.length : Int)
      · refine Ev.pos c2 ?_
        rw [show H.badB l.length f0[j] = true from by simp [H.badB]; omega]
        exact Ev.now _
      · refine Ev.neg c2 ?_
        rw [show H.badB l.length f0[j] = false from by simp [H.badB]; omega, Bool.false_or]
        exact right_l1 l i f0 f1 b hf hn n (j + 1) (by omega)
theorem right_l0 (l : List S47) (hl : l.length < 4611686018427387904) (hs : ∀ o ∈ l, o.f0.length < 4611686018427387904) : ∀ n i, i + n = l.length → Ev (fun k => portolanref09_Right.l0 k (i : Int) l) (!(l.drop i).any (H.objB l.length))
  | 0, i, h => by
    refine Ev.step (fun _ => rfl) ?_
    simp only [portolanref09_Right.l0]
    refine Ev.neg (by omega) ?_
    rw [List.drop_of_length_le (by omega)]
    exact Ev.now _
  | n + 1, i, h => by
    have h1 : i < l.length := by omega
    have hf := hs _ (List.getElem_mem h1)
    have ih := right_l0 l hl hs n (i + 1) (by omega)
    rw [← w1 (by omega)] at ih
    have h3 := right_l1 l i l[i].f0 l[i].f1 _ hf ih l[i].f0.length 0 (by omega)
    refine Ev.step (fun _ => rfl) ?_
    simp only [portolanref09_Right.l0]
    rw [rdT_at h1]
    refine Ev.pos (by omega) (Ev.pos (by omega) ?_)
    rw [List.drop_eq_getElem_cons h1, List.any_cons]
    have big : ∀ b, (8 < (l[i].f0.length : Int) ∨ 8 < (l[i].f1.length : Int)) → (!(H.objB l.length l[i] || b)) = false := by
      intro b hb
      simp only [H.objB, Bool.not_eq_false', Bool.or_eq_true, decide_eq_true_eq]
      exact .inl (.inl hb)
    by_cases c1 : (l[i].f0.length : Int) > 8
    · refine Ev.pos c1 (Ev.step (fun _ => rfl) ?_)
      simp only [portolanref09_Right.j1]
      rw [big _ (.inl c1)]
      exact Ev.pos (by trivial) (Ev.now _)
    · refine Ev.neg c1 (Ev.step (fun _ => rfl) ?_)
      simp only [portolanref09_Right.j1]
      by_cases c2 : (l[i].f1.length : Int) > 8
      · rw [big _ (.inr c2)]
        exact Ev.pos (decide_eq_true c2) (Ev.now _)
      · refine Ev.neg (by simpa using c2) ?_
        have e : H.objB l.length l[i] = l[i].f0.any (H.badB l.length) := by
          unfold H.objB
          rw [show decide (8 < (l[i].f0.length : Int)) = false from decide_eq_false c1, show decide (8 < (l[i].f1.length : Int)) = false from decide_eq_false c2]
          rfl
        rw [e, Bool.not_or]
        exact h3
theorem right (l : List S47) (hl : l.length < 4611686018427387904) (hs : ∀ o ∈ l, o.f0.length < 4611686018427387904) : Ev (fun k => portolanref09_Right.f k l) (H.rightB l) := by
  simp only [portolanref09_Right.f]
  exact right_l0 l hl hs l.length 0 (by omega)
/-- A heap with one object more. -/
def grown (l : List S47) (a b : Int) : List S47 := l ++ [⟨List.replicate a.toNat 0, List.replicate b.toNat 0⟩]
def allocB (l : List S47) (a b : Int) : Bool := H.rightB l && (decide (0 ≤ a ∧ a ≤ 8) && decide (0 ≤ b ∧ b ≤ 8))
def allocS (l : List S47) (a b : Int) : List S47 × Int × Int := if allocB l a b then (grown l a b, (l.length + 1 : Nat), 0) else (l, 0, 1)
theorem counted (a : Int) : heap_counted.f a = some (decide (0 ≤ a ∧ a ≤ 8)) := by
  unfold heap_counted.f
  by_cases h : a ≥ 0
  · rw [if_pos h]
    by_cases h2 : a ≤ 8 <;> simp [h, h2]
  · rw [if_neg h]
    simp [show ¬ 0 ≤ a from h]
theorem alloc (l : List S47) (hl : l.length ≤ 300) (a b : Int) : Ev (fun k => heap_Alloc.f k l a b) (allocS l a b) := by
  simp only [heap_Alloc.f, counted, Option.bind_some, heap_Right.f]
  have bad : allocB l a b = false → Ev (fun k => heap_Alloc.j0 k a b true l) (allocS l a b) := by
    intro h
    refine Ev.step (fun _ => rfl) ?_
    simp only [heap_Alloc.j0, allocS, h]
    exact Ev.now _
  by_cases ha : 0 ≤ a ∧ a ≤ 8
  · refine Ev.pos (decide_eq_true ha) ?_
    by_cases hb : 0 ≤ b ∧ b ≤ 8
    · refine Ev.pos (decide_eq_true hb) ?_
      cases hr : H.rightB l with
      | false => exact bad (by simp [allocB, hr])
      | true =>
        have hB : allocB l a b = true := by simp [allocB, hr, ha, hb]
        refine Ev.step (fun _ => rfl) ?_
        simp only [heap_Alloc.j0, api_Obj_27.f, Option.bind_some, xp_cat.f, allocS, hB]
        refine Ev.neg (by decide) (Ev.pos ha.1 (Ev.pos (by omega) (Ev.pos hb.1 (Ev.pos (by omega) ?_))))
        rw [if_pos (by simp; omega)]
        simp only [Option.bind_some, grown, if_true, List.length_append, List.length_cons, List.length_nil]
        exact Ev.now _
    · exact Ev.neg (by simpa using hb) (bad (by simp only [allocB, decide_eq_false hb, Bool.and_false]))
  · exact Ev.neg (by simpa using ha) (bad (by simp only [allocB, decide_eq_false ha, Bool.false_and, Bool.and_false]))
end Go.Proofs.Ytfnpaacoijfbfaa.Pure
