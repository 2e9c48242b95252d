/- One block comes next to another one just if that comes ahead of it; the edges are just these: the plain statement. -/
import Derived.Test.YtcknmcfomkbenaaPFx13
import Derived.Test.YtcknmcfomkbenaaPN
namespace Go.Proofs.Ytcknmcfomkbenaa.Pure
open Go.RowKit Go.Proofs.YtcknmcfomkbenaaW.PrintWords Go.Proofs.YtcknmcfomkbenaaW.PrintLast Go.Proofs.YtcknmcfomkbenaaW.PrintMore Go.Proofs.Ytcknmcfomkbenaa.PF Go.Proofs.Ytcknmcfomkbenaa.E
theorem flowBoth_l3 (p : List S30) (i : Nat) (a b u v : Int) (x y : Bool) (l : List S40) (hl : l.length < 4611686018427387904) (H : Gives (fun k => portolanlaw05_FlowBoth.l0 k (wrap64 ((i : Int) + 1)) p u v) (fun r => r = true)) (hxy : x = y) (hy : y = true ↔ (⟨a, b⟩ : S40) ∈ l) :
    ∀ (d j : Nat) (z : Bool), l.length - j ≤ d → (z = true ↔ (⟨a, b⟩ : S40) ∈ l.take j) → Gives (fun k => portolanlaw05_FlowBoth.l3 k (i : Int) a b l x y z (j : Int) p u v) (fun r => r = true) := by
  have fin : ∀ (j : Nat) (z : Bool), l.length ≤ j → (z = true ↔ (⟨a, b⟩ : S40) ∈ l.take j) → Gives (fun k => if (x != y) = true then some false else if (y != z) = true then some false else portolanlaw05_FlowBoth.l0 k (wrap64 ((i : Int) + 1)) p u v) (fun r => r = true) := by
    intro j z hj hz
    rw [List.take_of_length_le hj, ← hy] at hz
    have e : y = z := by cases y <;> cases z <;> simp_all
    exact Gives.neg (by simp [hxy]) (Gives.neg (by simp [e]) H)
  intro d
  induction d with
  | zero =>
    intro j z hj hz
    refine Gives.step (fun _ => rfl) ?_
    simp only [portolanlaw05_FlowBoth.l3]
    exact Gives.neg (by omega) (fin j z (by omega) hz)
  | succ d ih =>
    intro j z hj hz
    refine Gives.step (fun _ => rfl) ?_
    simp only [portolanlaw05_FlowBoth.l3]
    refine Gives.ite (fun h1 => ?_) (fun h1 => fin j z (by omega) hz)
    have hlt : j < l.length := by omega
    rw [w1 (by omega)]
    refine Gives.ite (fun h2 => ?_) (fun h2 => Gives.pos (by omega) ?_)
    · refine ih (j + 1) true (by omega) ?_
      rw [List.take_succ_eq_append_getElem hlt]
      exact ⟨fun _ => List.mem_append.2 (.inl (hz.1 h2)), fun _ => rfl⟩
    · rw [rdS40_at hlt]
      refine ih (j + 1) _ (by omega) ?_
      rw [List.take_succ_eq_append_getElem hlt, List.mem_append, List.mem_singleton]
      have hn : ¬ (⟨a, b⟩ : S40) ∈ l.take j := fun h => h2 (hz.2 h)
      simp only [hn, false_or, Bool.and_eq_true, beq_iff_eq]
      constructor
      · rintro ⟨h3, h4⟩
        rw [← h3, ← h4]
      · intro h3
        rw [← h3]
        exact ⟨rfl, rfl⟩
theorem flowBoth_l2 (p : List S30) (i : Nat) (a b u v : Int) (x : Bool) (m : List Int) (l : List S40) (hm : m.length < 4611686018427387904) (hl : l.length < 4611686018427387904) (H : Gives (fun k => portolanlaw05_FlowBoth.l0 k (wrap64 ((i : Int) + 1)) p u v) (fun r => r = true)) (hx : x = true ↔ a ∈ m) (hz : a ∈ m ↔ (⟨a, b⟩ : S40) ∈ l) :
    ∀ (d j : Nat) (y : Bool), m.length - j ≤ d → (y = true ↔ a ∈ m.take j) → Gives (fun k => portolanlaw05_FlowBoth.l2 k (i : Int) a b m l x y false (j : Int) p u v) (fun r => r = true) := by
  have fin : ∀ (j : Nat) (y : Bool), m.length ≤ j → (y = true ↔ a ∈ m.take j) → Gives (fun k => portolanlaw05_FlowBoth.l3 k (i : Int) a b l x y false 0 p u v) (fun r => r = true) := by
    intro j y hj hy
    rw [List.take_of_length_le hj] at hy
    have e : x = y := by
      have := hx.trans hy.symm
      cases x <;> cases y <;> simp_all
    exact flowBoth_l3 p i a b u v x y l hl H e (hy.trans hz) _ 0 false (Nat.le_refl _) (by simp)
  intro d
  induction d with
  | zero =>
    intro j y hj hy
    refine Gives.step (fun _ => rfl) ?_
    simp only [portolanlaw05_FlowBoth.l2]
    exact Gives.neg (by omega) (fin j y (by omega) hy)
  | succ d ih =>
    intro j y hj hy
    refine Gives.step (fun _ => rfl) ?_
    simp only [portolanlaw05_FlowBoth.l2]
    refine Gives.ite (fun h1 => ?_) (fun h1 => fin j y (by omega) hy)
    have hlt : j < m.length := by omega
    rw [w1 (by omega)]
    refine Gives.ite (fun h2 => ?_) (fun h2 => Gives.pos (by omega) ?_)
    · refine ih (j + 1) true (by omega) ?_
      rw [List.take_succ_eq_append_getElem hlt]
      exact ⟨fun _ => List.mem_append.2 (.inl (hy.1 h2)), fun _ => rfl⟩
    · rw [rd_at hlt]
      refine ih (j + 1) _ (by omega) ?_
      rw [List.take_succ_eq_append_getElem hlt, List.mem_append, List.mem_singleton]
      have hn : ¬ a ∈ m.take j := fun h => h2 (hy.2 h)
      simp only [hn, false_or, beq_iff_eq]
      exact eq_comm
theorem flowBoth_l1 (p : List S30) (i : Nat) (a b u v : Int) (n m : List Int) (l : List S40) (hn : n.length < 4611686018427387904) (hm : m.length < 4611686018427387904) (hl : l.length < 4611686018427387904) (H : Gives (fun k => portolanlaw05_FlowBoth.l0 k (wrap64 ((i : Int) + 1)) p u v) (fun r => r = true)) (hx : b ∈ n ↔ a ∈ m) (hz : a ∈ m ↔ (⟨a, b⟩ : S40) ∈ l) :
    ∀ (d j : Nat) (x : Bool), n.length - j ≤ d → (x = true ↔ b ∈ n.take j) → Gives (fun k => portolanlaw05_FlowBoth.l1 k (i : Int) a b n m l x false false (j : Int) p u v) (fun r => r = true) := by
  have fin : ∀ (j : Nat) (x : Bool), n.length ≤ j → (x = true ↔ b ∈ n.take j) → Gives (fun k => portolanlaw05_FlowBoth.l2 k (i : Int) a b m l x false false 0 p u v) (fun r => r = true) := by
    intro j x hj hy
    rw [List.take_of_length_le hj] at hy
    exact flowBoth_l2 p i a b u v x m l hm hl H (hy.trans hx) hz _ 0 false (Nat.le_refl _) (by simp)
  intro d
  induction d with
  | zero =>
    intro j x hj hy
    refine Gives.step (fun _ => rfl) ?_
    simp only [portolanlaw05_FlowBoth.l1]
    exact Gives.neg (by omega) (fin j x (by omega) hy)
  | succ d ih =>
    intro j x hj hy
    refine Gives.step (fun _ => rfl) ?_
    simp only [portolanlaw05_FlowBoth.l1]
    refine Gives.ite (fun h1 => ?_) (fun h1 => fin j x (by omega) hy)
    have hlt : j < n.length := by omega
    rw [w1 (by omega)]
    refine Gives.ite (fun h2 => ?_) (fun h2 => Gives.pos (by omega) ?_)
    · refine ih (j + 1) true (by omega) ?_
      rw [List.take_succ_eq_append_getElem hlt]
      exact ⟨fun _ => List.mem_append.2 (.inl (hy.1 h2)), fun _ => rfl⟩
    · rw [rd_at hlt]
      refine ih (j + 1) _ (by omega) ?_
      rw [List.take_succ_eq_append_getElem hlt, List.mem_append, List.mem_singleton]
      have hn : ¬ b ∈ n.take j := fun h => h2 (hy.2 h)
      simp only [hn, false_or, beq_iff_eq]
      exact eq_comm
theorem flowBoth_l0 (p : List S30) (wp : WP p) (ok : OkProg p) (u v : Int) (u0 : 0 ≤ u) (u1 : u < 256) (v0 : 0 ≤ v) (v1 : v < 256) : ∀ (d i : Nat), p.length - i ≤ d → Gives (fun k => portolanlaw05_FlowBoth.l0 k (i : Int) p u v) (fun r => r = true) := by
  have hp := wp.n
  intro d
  induction d with
  | zero =>
    intro i hi
    refine Gives.step (fun _ => rfl) ?_
    simp only [portolanlaw05_FlowBoth.l0]
    exact Gives.neg (by omega) (Gives.now rfl)
  | succ d ih =>
    intro i hi
    by_cases hlt : i < p.length
    · have w := wp.w _ (List.getElem_mem hlt)
      have o := ok.fn _ (List.getElem_mem hlt)
      have h40 := o.hi
      have h1 := o.lo
      refine Gives.step (fun _ => rfl) ?_
      simp only [portolanlaw05_FlowBoth.l0]
      refine Gives.pos (by omega) (Gives.pos (by omega) ?_)
      rw [rdS30_at hlt, wid (x := u) (by omega) (by omega), wid (x := v) (by omega) (by omega)]
      refine Gives.neg (by omega) ?_
      have hn0 : (0 : Int) < (p[i].f4.length : Int) := by omega
      have a0 : 0 ≤ Int.tmod u (p[i].f4.length : Int) := Int.tmod_nonneg _ u0
      have a1 : Int.tmod u (p[i].f4.length : Int) < (p[i].f4.length : Int) := Int.tmod_lt_of_pos _ hn0
      have b0 : 0 ≤ Int.tmod v (p[i].f4.length : Int) := Int.tmod_nonneg _ v0
      have b1 : Int.tmod v (p[i].f4.length : Int) < (p[i].f4.length : Int) := Int.tmod_lt_of_pos _ hn0
      generalize Int.tmod u (p[i].f4.length : Int) = a at *
      generalize Int.tmod v (p[i].f4.length : Int) = b at *
      have hx := nxt_len p[i].f4 a
      have hl : (prevL p[i].f4 b).length ≤ p[i].f4.length := by
        unfold prevL
        split
        · exact ahead_len _ _ _
        · simp
      have he := edgesTo_len p[i].f4 p[i].f4.length
      refine Gives.bind (flow_next_gives _ w _) (fun q hq => Gives.bind (flow_prev_gives _ w _) (fun q2 hq2 => Gives.bind (flow_edges_gives _ w (by omega)) (fun q3 hq3 => ?_)))
      subst hq
      subst hq2
      subst hq3
      refine flowBoth_l1 p i a b u v _ _ _ (by omega) (by omega) (by omega) ?_ ?_ ?_ _ 0 false (Nat.le_refl _) (by simp)
      · rw [w1 (by omega)]
        exact ih (i + 1) (by omega)
      · rw [mem_prevL]
        exact ⟨fun h => ⟨⟨b0, b1⟩, a0, a1, h⟩, fun h => h.2.2.2⟩
      · rw [mem_prevL, mem_edgesTo]
        exact ⟨fun h => ⟨a0, a1, h.2.2.2⟩, fun h => ⟨⟨b0, b1⟩, a0, a1, h.2.2⟩⟩
    · exact ih i (by omega)
theorem FlowBoth (p : List S30) (u v : Int) (wp : WP p) (w1 : (Lit.int .u8 u).wf = true ∧ (Lit.int .u8 v).wf = true) : ∃ k, portolanlaw05_FlowBoth.f k p u v = some true := by
  have h : Gives (fun k => portolanlaw05_FlowBoth.f k p u v) (fun r => r = true) := by
    unfold portolanlaw05_FlowBoth.f
    refine Gives.bind alive_gives (fun a ha => Gives.pos ha (Gives.bind (out_gives p wp) (fun c hc => ?_)))
    refine Gives.ite (fun _ => Gives.now rfl) (fun h => ?_)
    have hu := u8 w1.1
    have hv := u8 w1.2
    exact flowBoth_l0 p wp (hc (by simpa using h)) u v hu.1 hu.2 hv.1 hv.2 _ 0 (Nat.le_refl _)
  obtain ⟨r, k, e, rfl⟩ := h.rounds
  exact ⟨k, e⟩
end Go.Proofs.Ytcknmcfomkbenaa.Pure
