/- What the program answers when it is asked of a function's tree. -/
import Derived.Test.YtcknmcfomkbenaaPFx2
import Derived.Test.YtcknmcfomkbenaaPFx20
import Derived.Test.YtcknmcfomkbenaaPFx23
import Derived.Test.YtcknmcfomkbenaaPD
namespace Go.Proofs.Ytcknmcfomkbenaa.Pure
open Go.RowKit Go.Proofs.YtcknmcfomkbenaaW.PrintWords Go.Proofs.YtcknmcfomkbenaaW.PrintLast Go.Proofs.YtcknmcfomkbenaaW.PrintMore Go.Proofs.Ytcknmcfomkbenaa.PF Go.Proofs.Ytcknmcfomkbenaa.E Go.Proofs.Ytcknmcfomkbenaa.D
set_option linter.unusedVariables false
theorem index_at (l : List Int) (c : Int) (hl : l.length < 4611686018427387904) : ∀ (d i m : Nat), l.length - i ≤ d → d < m → ∃ r, slices_Index_int_int.l0 m l c (l.length : Int) (i : Int) = some r := by
  intro d
  induction d with
  | zero =>
    intro i m hi hm
    obtain ⟨m, rfl⟩ : ∃ q, m = q + 1 := ⟨m - 1, by omega⟩
    refine ⟨-1, ?_⟩
    simp only [slices_Index_int_int.l0]
    rw [if_neg (by omega)]
  | succ d ih =>
    intro i m hi hm
    obtain ⟨m, rfl⟩ : ∃ q, m = q + 1 := ⟨m - 1, by omega⟩
    simp only [slices_Index_int_int.l0]
    by_cases h : i < l.length
    · rw [if_pos (by omega), if_pos (by omega), if_pos (by omega)]
      by_cases e : c = rd l (i : Int)
      · rw [if_pos e]
        exact ⟨_, rfl⟩
      · rw [if_neg e, w1 (by omega)]
        exact ih (i + 1) m (by omega) (by omega)
    · rw [if_neg (by omega)]
      exact ⟨_, rfl⟩
theorem LeO.le {α : Type} {g : Nat → Option α} (h : ∀ k, LeO (g k) (g (k + 1))) {k : Nat} {r : α} (e : g k = some r) : ∀ d, g (k + d) = some r
  | 0 => e
  | d + 1 => h (k + d) r (LeO.le h e d)
theorem at_of_gives {α : Type} {g : Nat → Option α} (h : ∀ k, LeO (g k) (g (k + 1))) {P : α → Prop} (hg : Gives g P) {k : Nat} {r : α} (e : g k = some r) : P r := by
  obtain ⟨r', ⟨n, hn⟩, hp⟩ := hg
  have e1 := LeO.le h e n
  have e2 := hn (k + n) (by omega)
  rw [e1] at e2
  rw [Option.some.inj e2]
  exact hp
theorem contains_at (l : List Int) (c : Int) (hl : l.length < 4611686018427387904) (m : Nat) (hm : l.length < m) : ∃ r, slices_Contains_int_int.f m l c = some r := by
  obtain ⟨r, e⟩ := index_at l c hl l.length 0 m (by omega) hm
  refine ⟨decide (r ≥ 0), ?_⟩
  unfold slices_Contains_int_int.f slices_Index_int_int.f
  rw [show ((0 : Nat) : Int) = 0 from rfl] at e
  rw [e]
  rfl
theorem prev_l0_at (f : S30) (w : W30 f) (hn : f.f4.length < 17592186044416) (b : Int) : ∀ (d i m : Nat) (l : List Int), l.length ≤ i → f.f4.length - i ≤ d → i ≤ f.f4.length → d + 4 ≤ m → ∃ r, flow_Prev.l0 m b l (f.f4.length : Int) (i : Int) f.f0 f.f1 f.f2 f.f3 f.f4 = some r := by
  intro d
  induction d with
  | zero =>
    intro i m l hl hi hi2 hm
    obtain ⟨m, rfl⟩ : ∃ q, m = q + 1 := ⟨m - 1, by omega⟩
    simp only [flow_Prev.l0]
    rw [if_neg (by omega)]
    exact ⟨_, rfl⟩
  | succ d ih =>
    intro i m l hl hi hi2 hm
    obtain ⟨m, rfl⟩ : ∃ q, m = q + 1 := ⟨m - 1, by omega⟩
    simp only [flow_Prev.l0]
    by_cases h : i < f.f4.length
    · have hnx := nxt_len f.f4 (i : Int)
      obtain ⟨q, rfl⟩ : ∃ q, m = q + 1 := ⟨m - 1, by omega⟩
      obtain ⟨r, hr⟩ := contains_at (nxt f.f4 (i : Int)) b (by omega) (q + 1) (by omega)
      rw [if_pos (by omega), flow_next_eq q f w, Option.bind_some, hr, Option.bind_some, w1 (by omega)]
      by_cases hb : r = true
      · rw [if_pos hb, if_pos (by omega)]
        exact ih (i + 1) (q + 1) _ (by rw [List.length_append]; simp only [List.length_cons, List.length_nil]; omega) (by omega) (by omega) (by omega)
      · rw [if_neg hb]
        exact ih (i + 1) (q + 1) _ (by omega) (by omega) (by omega) (by omega)
    · rw [if_neg (by omega)]
      exact ⟨_, rfl⟩
theorem prev_at (f : S30) (w : W30 f) (hn : f.f4.length < 17592186044416) (b : Int) : flow_Prev.f (f.f4.length + 20) f.f0 f.f1 f.f2 f.f3 f.f4 b = some (prevL f.f4 b) := by
  have ex : ∃ r, flow_Prev.f (f.f4.length + 20) f.f0 f.f1 f.f2 f.f3 f.f4 b = some r := by
    unfold flow_Prev.f
    by_cases h1 : b < 0
    · rw [if_pos h1, show f.f4.length + 20 = (f.f4.length + 19) + 1 from rfl]
      simp only [flow_Prev.j0]
      exact ⟨_, if_pos trivial⟩
    · rw [if_neg h1, show f.f4.length + 20 = (f.f4.length + 19) + 1 from rfl]
      simp only [flow_Prev.j0]
      by_cases h2 : decide (b ≥ (f.f4.length : Int)) = true
      · rw [if_pos h2]
        exact ⟨_, rfl⟩
      · rw [if_neg h2]
        exact prev_l0_at f w hn b f.f4.length 0 (f.f4.length + 19) [] (by simp) (by omega) (by omega) (by omega)
  obtain ⟨r, e⟩ := ex
  have := at_of_gives (fun k => flow_Prev.mono f.f0 f.f1 f.f2 f.f3 f.f4 b k) (flow_prev_gives f w b) e
  rw [e, this]
section
variable {nx : Int → List Int} {n : Nat} {order ab dp : List Int} (t : Tr nx n order ab dp)
include t
theorem Tr.ne {y : Int} (h : 0 ≤ rd ab y) : y ≠ 0 := by
  rintro rfl
  have := t.a0
  omega
theorem Tr.pos {y : Int} (hy : y ∈ order) (h0 : y ≠ 0) : 0 ≤ rd ab y := (t.rng _ (t.ai y hy h0)).1
theorem Tr.inn {y x : Int} (h : Up ab y x) : y ∈ order → x ∈ order ∧ (x = y ∨ rd dp x < rd dp y) := by
  induction h with
  | refl => exact fun h => ⟨h, .inl rfl⟩
  | @up y x h0 _ ih =>
    intro hy
    have hne := t.ne h0
    have h1 := ih (t.ai y hy hne)
    have h2 := t.ds y hy hne
    refine ⟨h1.1, .inr ?_⟩
    rcases h1.2 with e | e
    · rw [e]; omega
    · omega
theorem Tr.there_iff (b : Int) : thereB n dp b = true ↔ b ∈ order := by
  unfold thereB
  rw [decide_eq_true_iff]
  constructor
  · rintro ⟨h0, h1, h2⟩
    apply Classical.byContradiction
    intro h
    have := t.dout b h0 h1 h
    omega
  · exact fun h => ⟨(t.rng b h).1, (t.rng b h).2, (t.dn b h).1⟩
theorem Tr.up_step {a b : Int} (hb : b ∈ order) (hne : b ≠ a) (h0 : b ≠ 0) : Up ab b a ↔ Up ab (rd ab b) a := by
  constructor
  · intro h
    cases h with
    | refl => exact absurd rfl hne
    | up _ h => exact h
  · exact fun h => .up (t.pos hb h0) h
theorem Tr.climb {a : Int} (ha : a ∈ order) : ∀ (k : Nat) (b : Int), b ∈ order → rd dp b - rd dp a < (k : Int) → 0 < k → ∃ r, climbF n ab dp a k b = some r ∧ (r = true ↔ Up ab b a)
  | 0, b, hb, _, hk => by omega
  | k + 1, b, hb, h, _ => by
    unfold climbF
    rw [if_pos (t.rng b hb)]
    by_cases hg : rd dp b > rd dp a
    · rw [if_pos hg]
      have hne : b ≠ a := by rintro rfl; omega
      have h0 : b ≠ 0 := by
        rintro rfl
        have := t.d0
        have := (t.dn a ha).1
        omega
      have h1 := t.ds b hb h0
      obtain ⟨r, e, hr⟩ := Tr.climb ha k (rd ab b) (t.ai b hb h0) (by omega) (by omega)
      exact ⟨r, e, hr.trans (t.up_step hb hne h0).symm⟩
    · rw [if_neg hg]
      refine ⟨_, rfl, ?_⟩
      rw [decide_eq_true_iff]
      constructor
      · rintro rfl; exact .refl _
      · intro h
        rcases (t.inn h hb).2 with e | e
        · exact e
        · omega
theorem Tr.dom (hn : n ≤ 64) (a b : Int) : ∃ r, domF n ab dp 70 a b = some r ∧ (r = true ↔ a ∈ order ∧ b ∈ order ∧ Up ab b a) := by
  unfold domF
  by_cases h : a ∈ order ∧ b ∈ order
  · rw [if_pos ⟨(t.there_iff a).2 h.1, (t.there_iff b).2 h.2⟩]
    have h1 := t.dn a h.1
    have h2 := t.dn b h.2
    obtain ⟨r, e, hr⟩ := t.climb h.1 70 b h.2 (by omega) (by omega)
    exact ⟨r, e, hr.trans ⟨fun h3 => ⟨h.1, h.2, h3⟩, fun h3 => h3.2.2⟩⟩
  · rw [if_neg (fun h2 => h ⟨(t.there_iff a).1 h2.1, (t.there_iff b).1 h2.2⟩)]
    exact ⟨false, rfl, by simp only [Bool.false_eq_true, false_iff]; exact fun h2 => h ⟨h2.1, h2.2.1⟩⟩
end
theorem mem_kidsL {ab : List Int} {b x : Int} : ∀ n : Nat, x ∈ kidsL ab b n ↔ 0 ≤ x ∧ x < (n : Int) ∧ rd ab x = b ∧ 0 ≤ rd ab x
  | 0 => by
    simp only [kidsL, List.not_mem_nil, false_iff]
    omega
  | n + 1 => by
    have ih := mem_kidsL (ab := ab) (b := b) (x := x) n
    have hx : x = (n : Int) ∨ (0 ≤ x ∧ x < (n : Int)) ∨ ¬ (0 ≤ x ∧ x < ((n + 1 : Nat) : Int)) := by omega
    unfold kidsL
    split
    · rename_i h
      rw [List.mem_append, List.mem_singleton, ih]
      constructor
      · rintro (⟨h0, h1, h2⟩ | rfl)
        · exact ⟨h0, by omega, h2⟩
        · exact ⟨by omega, by omega, h⟩
      · rintro ⟨h0, h1, h2⟩
        rcases hx with e | e | e
        · exact .inr e
        · exact .inl ⟨e.1, e.2, h2⟩
        · omega
    · rename_i h
      rw [ih]
      constructor
      · rintro ⟨h0, h1, h2⟩
        exact ⟨h0, by omega, h2⟩
      · rintro ⟨h0, h1, h2⟩
        rcases hx with e | e | e
        · rw [e] at h2; exact absurd h2 h
        · exact ⟨e.1, e.2, h2⟩
        · omega
end Go.Proofs.Ytcknmcfomkbenaa.Pure
