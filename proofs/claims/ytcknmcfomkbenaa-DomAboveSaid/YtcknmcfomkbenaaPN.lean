/- What comes next to a block, ahead of it, the edges and the number of instructions: the program's and the reference's are one. -/
import Derived.Test.YtcknmcfomkbenaaPFx10
import Derived.Test.YtcknmcfomkbenaaPFx0
import Derived.Test.YtcknmcfomkbenaaPFx2
import Derived.Test.YtcknmcfomkbenaaPFx3
import Derived.Test.YtcknmcfomkbenaaPO
import Derived.Test.YtcknmcfomkbenaaDF
namespace Go.Proofs.Ytcknmcfomkbenaa.Pure
open Go.RowKit Go.Proofs.YtcknmcfomkbenaaW.PrintWords Go.Proofs.YtcknmcfomkbenaaW.PrintLast Go.Proofs.YtcknmcfomkbenaaW.PrintMore Go.Proofs.Ytcknmcfomkbenaa.PF Go.Proofs.Ytcknmcfomkbenaa.E
set_option linter.unusedVariables false
theorem sortL_pair (a b : Int) : H.sortL [a, b] = if a ≤ b then [a, b] else [b, a] := by
  have h1 : (H.sortL [a, b]).Pairwise (fun x y => decide (x ≤ y) = true) := List.pairwise_mergeSort (fun a b c h1 h2 => by simp at *; omega) (fun a b => by simp; omega) _
  have h1' : (H.sortL [a, b]).Pairwise (· ≤ ·) := h1.imp (fun h => by simpa using h)
  have h2 : (H.sortL [a, b]).Perm [a, b] := List.mergeSort_perm _ _
  split
  · rename_i h
    exact h2.eq_of_pairwise (le := (· ≤ ·)) (fun x y _ _ h1 h2 => by omega) h1' (by simpa using h)
  · rename_i h
    exact (h2.trans (List.Perm.swap b a [])).eq_of_pairwise (le := (· ≤ ·)) (fun x y _ _ h1 h2 => by omega) h1' (by simp; omega)
theorem compact_pair (a b : Int) : Lib.compact [a, b] = if a = b then [a] else [a, b] := by
  unfold Lib.compact Lib.compactUpTo
  have e : List.range [a, b].length = [0, 1] := rfl
  rw [e]
  by_cases h : a = b
  · subst h
    simp [List.filter, Lib.keeps]
  · have h2 : ¬ b = a := fun h2 => h h2.symm
    simp [List.filter, Lib.keeps, h, h2]
theorem nextL_is (x : S52) : H.nextL x.f0 x.f4 x.f5 = leads x := by
  unfold H.nextL leads
  by_cases h1 : x.f0 = 22
  · rw [if_pos h1, if_neg (by omega), if_pos h1, sortL_pair]
    by_cases h2 : x.f4 = x.f5
    · rw [if_pos h2, if_pos (by omega), compact_pair, if_pos h2]
    · rw [if_neg h2]
      unfold mn mx
      by_cases h3 : x.f4 ≤ x.f5
      · rw [if_pos h3, compact_pair, if_neg h2, if_neg (by omega), if_pos (by omega)]
      · rw [if_neg h3, compact_pair, if_neg (fun e => h2 e.symm), if_pos (by omega), if_neg (by omega)]
  · rw [if_neg h1]
    by_cases h2 : x.f0 = 21
    · rw [if_pos h2, if_pos h2]
      have : H.sortL [x.f4] = [x.f4] := by simp [H.sortL]
      rw [this]
      rfl
    · rw [if_neg h2, if_neg h2, if_neg h1]
      have : H.sortL ([] : List Int) = [] := by simp [H.sortL]
      rw [this]
      rfl
def nxt (f4 : List S50) (b : Int) : List Int := if b < 0 then [] else if b ≥ (f4.length : Int) then [] else if (rd_T50 f4 b).f0.length = 0 then [] else leads (rd_T52 (rd_T50 f4 b).f0 (((rd_T50 f4 b).f0.length : Int) - 1))
theorem nxt_at {f4 : List S50} {b : Nat} (h : b < f4.length) : nxt f4 (b : Int) = if f4[b].f0.length = 0 then [] else leads (rd_T52 f4[b].f0 ((f4[b].f0.length : Int) - 1)) := by
  unfold nxt
  rw [if_neg (by omega), if_neg (by omega), rdS50_at h]
theorem nxt_out {f4 : List S50} {b : Int} (h : ¬ (0 ≤ b ∧ b < (f4.length : Int))) : nxt f4 b = [] := by
  unfold nxt
  by_cases h1 : b < 0
  · rw [if_pos h1]
  · rw [if_neg h1, if_pos (by omega)]
theorem code_len (f : S30) (w : W30 f) (b : Int) (h0 : ¬ b < 0) (h1 : ¬ b ≥ (f.f4.length : Int)) : (rd_T50 f.f4 b).f0.length ≤ 17592186043904 := by
  have hb : b.toNat < f.f4.length := by omega
  have := (w.w4 _ (List.getElem_mem hb)).n0
  rwa [← rdS50_at hb, Int.toNat_of_nonneg (by omega)] at this
theorem flow_next_eq (k : Nat) (f : S30) (w : W30 f) (b : Int) : flow_Next.f (k + 1) f.f0 f.f1 f.f2 f.f3 f.f4 b = some (nxt f.f4 b) := by
  unfold flow_Next.f nxt
  by_cases h0 : b < 0
  · rw [if_pos h0, if_pos h0]
    simp only [flow_Next.j0, if_true]
  rw [if_neg h0, if_neg h0]
  simp only [flow_Next.j0]
  by_cases h1 : b ≥ (f.f4.length : Int)
  · rw [if_pos h1, if_pos (decide_eq_true h1)]
  have hc := code_len f w b h0 h1
  rw [if_neg h1, if_neg (by simpa using h1), if_pos (by omega), if_pos (by omega)]
  by_cases h2 : (rd_T50 f.f4 b).f0.length = 0
  · rw [if_pos (by omega), if_pos h2]
  rw [if_neg (by omega), if_neg h2, show wrap64 (((rd_T50 f.f4 b).f0.length : Int) - 1) = ((rd_T50 f.f4 b).f0.length : Int) - 1 from wid (by omega) (by omega), if_pos (by omega), if_pos (by omega)]
  unfold shape_Next.f
  rw [Option.bind_some, nextL_is]
theorem ref_next_eq (f : S30) (w : W30 f) (b : Int) : portolanref05_Next.f f.f0 f.f1 f.f2 f.f3 f.f4 b = some (nxt f.f4 b) := by
  unfold portolanref05_Next.f nxt
  by_cases h0 : b < 0
  · rw [if_pos h0, if_pos h0]
  rw [if_neg h0, if_neg h0]
  by_cases h1 : b ≥ (f.f4.length : Int)
  · rw [if_pos h1, if_pos h1]
  have hc := code_len f w b h0 h1
  rw [if_neg h1, if_neg h1, if_pos (by omega), if_pos (by omega)]
  by_cases h2 : (rd_T50 f.f4 b).f0.length = 0
  · rw [if_pos (by omega), if_pos h2]
  rw [if_neg (by omega), if_neg h2, show wrap64 (((rd_T50 f.f4 b).f0.length : Int) - 1) = ((rd_T50 f.f4 b).f0.length : Int) - 1 from wid (by omega) (by omega), if_pos (by omega), if_pos (by omega), next_is, Option.bind_some]
theorem flow_next_gives (f : S30) (w : W30 f) (b : Int) : Gives (fun k => flow_Next.f k f.f0 f.f1 f.f2 f.f3 f.f4 b) (fun r => r = nxt f.f4 b) :=
  ⟨_, ⟨1, fun k hk => by obtain ⟨m, rfl⟩ : ∃ m, k = m + 1 := ⟨k - 1, by omega⟩; exact flow_next_eq m f w b⟩, rfl⟩
theorem nxt_len (f4 : List S50) (b : Int) : (nxt f4 b).length ≤ 2 := by
  unfold nxt
  repeat' split
  all_goals first | exact leads_len _ | simp
theorem ints_l0 (a b : List Int) (hl : a.length = b.length) (hb : a.length < 4611686018427387904) : ∀ n i, i + n = a.length → Ev (fun k => portolanref01_Ints.l0 k a b (i : Int)) (decide (a.drop i = b.drop i))
  | 0, i, h => by
    refine Ev.step (fun _ => rfl) ?_
    simp only [portolanref01_Ints.l0]
    refine Ev.neg (by omega) ?_
    rw [List.drop_of_length_le (by omega), List.drop_of_length_le (by omega)]
    exact Ev.now _
  | n + 1, i, h => by
    have h1 : i < a.length := by omega
    have h2 : i < b.length := by omega
    refine Ev.step (fun _ => rfl) ?_
    simp only [portolanref01_Ints.l0]
    refine Ev.pos (by omega) (Ev.pos (by omega) (Ev.pos (by omega) ?_))
    rw [rd_at h1, rd_at h2, w1 (by omega), List.drop_eq_getElem_cons h1, List.drop_eq_getElem_cons h2]
    by_cases e : a[i] = b[i]
    · refine Ev.pos e ?_
      rw [e, show decide (b[i] :: List.drop (i + 1) a = b[i] :: List.drop (i + 1) b) = decide (List.drop (i + 1) a = List.drop (i + 1) b) from by simp only [List.cons.injEq, true_and]]
      exact ints_l0 a b hl hb n (i + 1) (by omega)
    · refine Ev.neg e ?_
      rw [show decide (a[i] :: List.drop (i + 1) a = b[i] :: List.drop (i + 1) b) = false from decide_eq_false (fun h => e (List.cons.inj h).1)]
      exact Ev.now _
theorem ints_gives (a b : List Int) (hb : a.length < 4611686018427387904) : Gives (fun k => portolanref01_Ints.f k a b) (fun r => r = true ↔ a = b) := by
  simp only [portolanref01_Ints.f]
  by_cases hl : a.length = b.length
  · refine Gives.pos (by omega) (Gives.of (r := decide (a = b)) ?_ (by simp))
    simpa using ints_l0 a b hl hb a.length 0 (by omega)
  · exact Gives.neg (by omega) (Gives.now (by simp only [Bool.false_eq_true, false_iff]; exact fun e => hl (by rw [e])))
theorem index_l0 (l : List Int) (c : Int) (hl : l.length < 4611686018427387904) : ∀ (d i : Nat), l.length - i ≤ d → (∀ x ∈ l.take i, x ≠ c) → Gives (fun k => slices_Index_int_int.l0 k l c (l.length : Int) (i : Int)) (fun r => r ≥ 0 ↔ c ∈ l) := by
  have fin : ∀ i : Nat, l.length ≤ i → (∀ x ∈ l.take i, x ≠ c) → Gives (fun k => some (-1 : Int)) (fun r => r ≥ 0 ↔ c ∈ l) := by
    intro i hi h
    rw [List.take_of_length_le hi] at h
    exact Gives.now ⟨fun h2 => by omega, fun h2 => absurd rfl (h c h2)⟩
  intro d
  induction d with
  | zero =>
    intro i hi h
    refine Gives.step (fun _ => rfl) ?_
    simp only [slices_Index_int_int.l0]
    exact Gives.neg (by omega) (fin i (by omega) h)
  | succ d ih =>
    intro i hi h
    refine Gives.step (fun _ => rfl) ?_
    simp only [slices_Index_int_int.l0]
    refine Gives.ite (fun h1 => Gives.pos (by omega) (Gives.pos (by omega) ?_)) (fun h1 => fin i (by omega) h)
    have hlt : i < l.length := by omega
    rw [rd_at hlt]
    refine Gives.ite (fun h2 => Gives.now ?_) (fun h2 => ?_)
    · exact ⟨fun _ => by rw [h2]; exact List.getElem_mem hlt, fun _ => by omega⟩
    · rw [w1 (by omega)]
      refine ih (i + 1) (by omega) (fun x hx => ?_)
      rw [List.take_succ_eq_append_getElem hlt] at hx
      rcases List.mem_append.1 hx with hx | hx
      · exact h x hx
      · rw [List.mem_singleton.1 hx]
        exact fun e => h2 e.symm
theorem contains_gives (l : List Int) (c : Int) (hl : l.length < 4611686018427387904) : Gives (fun k => slices_Contains_int_int.f k l c) (fun r => r = true ↔ c ∈ l) := by
  unfold slices_Contains_int_int.f slices_Index_int_int.f
  exact Gives.bind (index_l0 l c hl _ 0 (Nat.le_refl _) (by simp)) (fun a ha => Gives.now (by rw [← ha]; simp))
def ahead (f4 : List S50) (b : Int) (i : Nat) : List Int := ((List.range i).filter fun (j : Nat) => (nxt f4 (j : Int)).contains b).map fun (j : Nat) => (j : Int)
theorem ahead_len (f4 : List S50) (b : Int) (i : Nat) : (ahead f4 b i).length ≤ i := by
  unfold ahead
  rw [List.length_map]
  exact Nat.le_trans (List.length_filter_le _ _) (by simp)
theorem ahead_yes {f4 : List S50} {b : Int} {i : Nat} (h : b ∈ nxt f4 (i : Int)) : ahead f4 b (i + 1) = ahead f4 b i ++ [(i : Int)] := by
  unfold ahead
  rw [List.range_succ, List.filter_append, List.map_append]
  simp [List.filter, h]
theorem ahead_no {f4 : List S50} {b : Int} {i : Nat} (h : ¬ b ∈ nxt f4 (i : Int)) : ahead f4 b (i + 1) = ahead f4 b i := by
  unfold ahead
  rw [List.range_succ, List.filter_append, List.map_append]
  simp [List.filter, h]
def prevL (f4 : List S50) (b : Int) : List Int := if 0 ≤ b ∧ b < (f4.length : Int) then ahead f4 b f4.length else []
theorem mem_prevL {f4 : List S50} {a b : Int} : a ∈ prevL f4 b ↔ (0 ≤ b ∧ b < (f4.length : Int)) ∧ 0 ≤ a ∧ a < (f4.length : Int) ∧ b ∈ nxt f4 a := by
  unfold prevL
  by_cases h : 0 ≤ b ∧ b < (f4.length : Int)
  · rw [if_pos h]
    unfold ahead
    simp only [List.mem_map, List.mem_filter, List.mem_range, List.contains_iff_mem]
    constructor
    · rintro ⟨j, ⟨h1, h2⟩, rfl⟩
      exact ⟨h, by omega, by omega, h2⟩
    · rintro ⟨_, h1, h2, h3⟩
      refine ⟨a.toNat, ⟨by omega, ?_⟩, by omega⟩
      rwa [Int.toNat_of_nonneg h1]
  · rw [if_neg h]
    simp [h]
theorem flow_prev_l0 (f : S30) (w : W30 f) (hn : f.f4.length < 17592186044416) (b : Int) : ∀ (d i : Nat), f.f4.length - i ≤ d → i ≤ f.f4.length → Gives (fun k => flow_Prev.l0 k b (ahead f.f4 b i) (f.f4.length : Int) (i : Int) f.f0 f.f1 f.f2 f.f3 f.f4) (fun r => r = ahead f.f4 b f.f4.length) := by
  intro d
  induction d with
  | zero =>
    intro i hi hi2
    refine Gives.step (fun _ => rfl) ?_
    simp only [flow_Prev.l0]
    refine Gives.neg (by omega) (Gives.now ?_)
    rw [show i = f.f4.length by omega]
  | succ d ih =>
    intro i hi hi2
    refine Gives.step (fun _ => rfl) ?_
    simp only [flow_Prev.l0]
    have hln := ahead_len f.f4 b i
    have hnx := nxt_len f.f4 (i : Int)
    refine Gives.ite (fun h1 => Gives.bind (flow_next_gives f w _) (fun a ha => ?_)) (fun h1 => Gives.now (by rw [show i = f.f4.length by omega]))
    subst ha
    refine Gives.bind (contains_gives _ _ (by omega)) (fun c hc => Gives.ite (fun h2 => Gives.pos (by omega) ?_) (fun h2 => ?_))
    · rw [w1 (by omega), ← ahead_yes (hc.1 h2)]
      exact ih (i + 1) (by omega) (by omega)
    · rw [w1 (by omega), ← ahead_no (fun h3 => h2 (hc.2 h3))]
      exact ih (i + 1) (by omega) (by omega)
theorem flow_prev_gives (f : S30) (w : W30 f) (b : Int) : Gives (fun k => flow_Prev.f k f.f0 f.f1 f.f2 f.f3 f.f4 b) (fun r => r = prevL f.f4 b) := by
  have h4 := w.n4
  unfold flow_Prev.f prevL
  refine Gives.ite (fun h1 => ?_) (fun h1 => ?_)
  · rw [if_neg (by omega)]
    refine Gives.step (fun _ => rfl) ?_
    simp only [flow_Prev.j0]
    exact Gives.pos trivial (Gives.now rfl)
  · refine Gives.step (fun _ => rfl) ?_
    simp only [flow_Prev.j0]
    refine Gives.ite (fun h2 => Gives.now ?_) (fun h2 => ?_)
    · rw [if_neg (by simp at h2; omega)]
    · rw [if_pos (by simp at h2; omega)]
      have := flow_prev_l0 f w (by omega) b _ 0 (Nat.le_refl _) (Nat.zero_le _)
      exact this
open Go.Proofs.Ytcknmcfomkbenaa.D in
theorem walk_all (nx : Int → List Int) (n : Nat) : ∃ s, walkF nx (n + 1) (List.replicate n false, []) 0 = some s ∧ Gr nx [0] (List.replicate n false, []) s s.2 ∧ s.2.length ≤ n := by
  obtain ⟨s, hs⟩ := walkF_some nx (n + 1) (List.replicate n false, []) 0 (by simp only [List.length_replicate]; omega)
  obtain ⟨d, g⟩ := walkF_gr nx _ _ _ _ hs
  have e : s.2 = d := by have := g.app; simpa using this
  refine ⟨s, hs, by rw [e]; exact g, ?_⟩
  have key : ∀ x ∈ s.2, x ∈ (List.range n).map fun (j : Nat) => (j : Int) := by
    intro x hx
    have h1 := (g.new x).2 (.inr (e ▸ hx))
    have h2 := M_lt h1
    rw [g.len] at h2
    simp only [List.length_replicate] at h2
    have h3 := h1.1
    refine List.mem_map.2 ⟨x.toNat, List.mem_range.2 (by omega), by omega⟩
  have := g.nod
  rw [← e] at this
  have h2 : s.2.length ≤ ((List.range n).map fun (j : Nat) => (j : Int)).length := by
    have sub : ∀ (l r : List Int), l.Nodup → (∀ x ∈ l, x ∈ r) → l.length ≤ r.length := by
      intro l
      induction l with
      | nil => intro r _ _; exact Nat.zero_le _
      | cons a l ih =>
        intro r h hs
        have h1 := List.nodup_cons.1 h
        have ha := hs a (by simp)
        have h3 := ih (r.erase a) h1.2 (fun x hx => (List.mem_erase_of_ne (fun e => h1.1 (by rw [← e]; exact hx))).2 (hs x (by simp [hx])))
        rw [List.length_erase_of_mem ha] at h3
        have h4 := List.length_pos_of_mem ha
        simp only [List.length_cons]
        omega
    exact sub _ _ this key
  simpa using h2
def orderL (f4 : List S50) : List Int := ((D.walkF (nxt f4) (f4.length + 1) (List.replicate f4.length false, []) 0).map fun s => s.2.reverse).getD []
theorem order_is (f : S30) (w : W30 f) (h1 : 0 < f.f4.length) (h2 : f.f4.length ≤ 8796093022208) : flow_Order.f f.f0 f.f1 f.f2 f.f3 f.f4 = some (orderL f.f4) := by
  have e : (fun b => (flow_Next.f 1 f.f0 f.f1 f.f2 f.f3 f.f4 b).getD []) = nxt f.f4 := by
    funext b
    rw [flow_next_eq 0 f w b]
    rfl
  have e2 : (List.range f.f4.length).all (fun b => (flow_Next.f 1 f.f0 f.f1 f.f2 f.f3 f.f4 (b : Int)).isSome) = true := by
    rw [List.all_eq_true]
    intro b _
    rw [flow_next_eq 0 f w]
    rfl
  obtain ⟨s, hs, _, hl⟩ := walk_all (nxt f.f4) f.f4.length
  unfold flow_Order.f orderL
  rw [if_pos ⟨h1, by omega, e2⟩, e, hs, Option.bind_some, if_pos (by omega)]
  rfl
def aliveF : S30 := ⟨[0], [-1], 0, 0, [⟨[⟨22, 0, 0, 0, 1, 2, []⟩]⟩, ⟨[⟨21, 0, 0, 0, 3, 0, []⟩]⟩, ⟨[⟨21, 0, 0, 0, 3, 0, []⟩]⟩, ⟨[⟨23, 0, 0, 0, 0, 0, []⟩]⟩]⟩
theorem aliveF_ok : W30 aliveF := by
  have i : ∀ x : Int, -100 ≤ x → x < 100 → I64 x := fun x h1 h2 => ⟨by omega, by omega⟩
  refine ⟨by decide, ?_, by decide, ?_, i _ (by decide) (by decide), i _ (by decide) (by decide), by decide, ?_⟩
  · intro y hy
    exact i y (by simp [aliveF] at hy; omega) (by simp [aliveF] at hy; omega)
  · intro y hy
    exact i y (by simp [aliveF] at hy; omega) (by simp [aliveF] at hy; omega)
  · intro b hb
    simp only [aliveF, List.mem_cons, List.not_mem_nil, or_false] at hb
    rcases hb with rfl | rfl | rfl | rfl <;> refine ⟨by simp, fun x hx => ?_⟩ <;> rw [List.mem_singleton.1 hx] <;> exact ⟨i _ (by decide) (by decide), i _ (by decide) (by decide), i _ (by decide) (by decide), i _ (by decide) (by decide), i _ (by decide) (by decide), i _ (by decide) (by decide), by decide, by simp⟩
end Go.Proofs.Ytcknmcfomkbenaa.Pure
