/- slices.Clone of rows of uint64 gives the same row anew: for any row that can be made. -/
import Derived.Test.YtcknmcfomkbenaaPFx0
import Derived.Lib.Walk
import Derived.Lib.SliceRun
namespace Go.Proofs.Ytcknmcfomkbenaa.H
open Go.RowKit Go.Lib Go.Proofs.YtcknmcfomkbenaaW.PrintWords Go.Proofs.YtcknmcfomkbenaaW.PrintLast Go.Proofs.YtcknmcfomkbenaaW.PrintMore
theorem row_cells {α : Type} {R : α → List Value → Prop} {size : Nat} {w : World} {ad : Addr} {n : Nat} {ps : List α} (h : ReadsRow R size w (some ad) n ps) (h1 : ∀ x c, R x c → ∀ u ∈ c, u.oneCell' = true) :
    ∃ cs : List Value, Reps R size ps cs ∧ (∀ j u, cs[j]? = some u → w.cell? (ad.add j) = some u) ∧ (∀ u ∈ cs, u.oneCell' = true) := by
  obtain ⟨hl, _, hc⟩ := h
  have hc' : ∀ j p, ps[j]? = some p → ∃ c : List Value, c.length = size ∧ R p c ∧ ∀ i u, c[i]? = some u → w.cell? (ad.add (j * size + i)) = some u := by
    intro j p hj
    have hn : 0 < n := by have := (List.getElem?_eq_some_iff.1 hj).1; omega
    obtain ⟨ad', e, h2⟩ := hc hn
    injection e with e
    subst e
    exact h2 j p hj
  clear hc hl
  suffices H : ∀ (qs : List α) (b : Nat), (∀ j p, qs[j]? = some p → ∃ c : List Value, c.length = size ∧ R p c ∧ ∀ i u, c[i]? = some u → w.cell? (ad.add ((b + j) * size + i)) = some u) →
      ∃ cs : List Value, Reps R size qs cs ∧ (∀ j u, cs[j]? = some u → w.cell? (ad.add (b * size + j)) = some u) ∧ (∀ u ∈ cs, u.oneCell' = true) by
    obtain ⟨cs, g1, g2, g3⟩ := H ps 0 (fun j p hj => by simpa using hc' j p hj)
    exact ⟨cs, g1, fun j u hu => by simpa using g2 j u hu, g3⟩
  intro qs
  induction qs with
  | nil => intro b _; exact ⟨[], Reps.none _ _, fun j u hu => by simp at hu, by simp⟩
  | cons q qs ih =>
    intro b hq
    obtain ⟨c, e1, e2, e3⟩ := hq 0 q rfl
    obtain ⟨cs, g1, g2, g3⟩ := ih (b + 1) (fun j p hj => by
      obtain ⟨c', f1, f2, f3⟩ := hq (j + 1) p (by simpa using hj)
      refine ⟨c', f1, f2, fun i u hu => ?_⟩
      have := f3 i u hu
      rwa [show b + (j + 1) = b + 1 + j by omega] at this)
    refine ⟨c ++ cs, ⟨by rw [List.length_append, g1.1, e1, List.length_cons, Nat.add_mul, Nat.one_mul, Nat.add_comm], ?_⟩, ?_, ?_⟩
    · intro j p hj
      cases j with
      | zero =>
        have : q = p := by simpa using hj
        subst this
        rw [Nat.zero_mul, List.drop_zero, ← e1, List.take_left]
        exact e2
      | succ j =>
        have h2 := g1.2 j p (by simpa using hj)
        rw [Nat.succ_mul, Nat.add_comm, ← List.drop_drop, ← e1, List.drop_left, e1]
        exact h2
    · intro j u hu
      rcases Nat.lt_or_ge j c.length with hlt | hge
      · rw [List.getElem?_append_left hlt] at hu
        simpa using e3 j u hu
      · rw [List.getElem?_append_right hge] at hu
        have := g2 _ u hu
        rw [Nat.succ_mul] at this
        rwa [show b * size + size + (j - c.length) = b * size + j by omega] at this
    · intro u hu
      rcases List.mem_append.1 hu with hu | hu
      · exact h1 _ _ e2 u hu
      · exact g3 u hu
theorem row_nil {α : Type} {R : α → List Value → Prop} {size : Nat} {w : World} {n : Nat} {ps : List α} (h : ReadsRow R size w none n ps) : ps = [] := by
  have h1 := h.1
  rcases Nat.eq_zero_or_pos n with h0 | h0
  · exact List.length_eq_zero_iff.1 (by omega)
  · obtain ⟨ad, e, _⟩ := h.2.2 h0
    cases e
theorem R_of_own_int {k : IntKind} {e n : Nat} {W w1 : World} {v : Value} {xs : List Int} {news : List Value} (hn : xs.length = n) (ho : w1.ownsRow W.heap.size e 1 v n news) (hr : Reps (fun x c => (Kd.int k).K W x c) 1 xs news) :
    Kd.R (Kd.int k) e w1 W.heap.size (fun _ => True) v xs := by
  subst hn
  exact ⟨fun _ _ => trivial, news, ho, hr⟩
set_option maxHeartbeats 2000000 in
set_option maxRecDepth 100000 in
theorem clone64 (b : Addr) (n c : Nat) (news : List Value) (w : World) (hl : news.length = n * 1) (hn : n ≤ maxLen) (hbig : n * 8 ≤ 140737488355328)
    (hc : ∀ j u, news[j]? = some u → w.cell? (b.add j) = some u) (h1 : ∀ u ∈ news, u.oneCell' = true) :
    Calls Try.prog 126 #[.slice (some b) n c] w fun e w' => ∃ v', e = .returned v' ∧ w'.ownsRow w.heap.size 124 1 v' n news ∧ Below w.heap.size w w' := by
  have hinfo : (Try.prog.info? 124).map (fun i => (i.zero, i.size, i.bytes)) = some (some (.int .u64 0), 1, 8) := by kernel_rfl
  obtain ⟨i0, hi, hz0, hz1, hz2⟩ := info_parts hinfo
  clear hinfo
  have q22 : ∀ (w : World) (a : Option Addr) (n c n' c' : Nat), (binOp .eql 90 (.slice a n c) (.slice none n' c')).run Try.prog w = .ok (.bool a.isNone) w := fun w a n c n' c' => Lib.run_eql_slice_nil w _ _ a n c n' c' Try.underlying90
  have A : Aside0 (∀ j u, news[j]? = some u → w.cell? (b.add j) = some u) := ⟨hc⟩
  clear hc
  go_enter Try.func126, Try.ntmps126
  go_wp2_with (at_builtin; refine wpList_append_own _ rfl _ _ 90 rfl w.heap.size 124 i0 _ 1 8 Try.underlying90 hi hz0 hz1 hz2 rfl (by decide) _ _ _ rfl (World.ownsRow_made w #[] 0 (Nat.le_refl _) (Nat.zero_le _) (by simp)) b n c news rfl ?qc1 ?qc2 ?qc3 ?qc4 ?qc5 ?qc6 ?_)
  case qc1 => exact hl
  case qc2 =>
    intro j u hj
    exact Lib.cell?_alloc_some _ (A.out j u hj)
  case qc3 => exact h1
  case qc4 => rw [Nat.zero_add]; exact hn
  case qc5 => rw [Nat.zero_add]; exact hbig
  case qc6 => simp
  intro v' w1 hown hgrow hnil
  go_wp2
  go_ret
  exact ⟨v', rfl, by simpa using hown, ((Below.refl _ w).alloc (Nat.le_refl _) _).grown hgrow (by simp) (by intro k hk; simp [Value.ownBlock] at hk; omega)⟩
set_option maxHeartbeats 1000000 in
theorem clone64_nil (n c : Nat) (w : World) :
    Calls Try.prog 126 #[.slice none n c] w fun e w' => e = .returned (.slice none 0 0) ∧ w' = w := by
  have q22 : ∀ (w : World) (a : Option Addr) (n c n' c' : Nat), (binOp .eql 90 (.slice a n c) (.slice none n' c')).run Try.prog w = .ok (.bool a.isNone) w := fun w a n c n' c' => Lib.run_eql_slice_nil w _ _ a n c n' c' Try.underlying90
  go_enter Try.func126, Try.ntmps126
  go_wp2
  go_ret
  exact ⟨rfl, rfl⟩
theorem clone64_any (A0 : Option Addr) (c0 : Nat) (l0 : List Int) (w : World) (hr0 : Kd.C (Kd.int .u64) w A0 l0.length l0) (hl : l0.length ≤ 17592186044416) :
    Calls Try.prog 126 #[.slice A0 l0.length c0] w fun e w' => ∃ v0_ : Value, e = .returned (v0_) ∧ Kd.R (Kd.int .u64) 124 w' w.heap.size (fun _ => True) v0_ l0 ∧ Below w.heap.size w w' := by
  cases A0 with
  | none =>
    obtain rfl := row_nil hr0
    refine (clone64_nil _ _ w).mono ?_
    rintro e w' ⟨rfl, rfl⟩
    exact ⟨_, rfl, Kd.R_nil _ _ _ _ _, Below.refl _ _⟩
  | some ad =>
    obtain ⟨cs, g1, g2, g3⟩ := row_cells hr0 (fun x c h => (Kd.int .u64).K_one h)
    refine (clone64 ad _ c0 cs w g1.1 (by unfold maxLen; exact hr0.2.1) (by omega) g2 g3).mono ?_
    rintro e w' ⟨v', rfl, hown, hb⟩
    exact ⟨v', rfl, R_of_own_int rfl hown g1, hb⟩
end Go.Proofs.Ytcknmcfomkbenaa.H
