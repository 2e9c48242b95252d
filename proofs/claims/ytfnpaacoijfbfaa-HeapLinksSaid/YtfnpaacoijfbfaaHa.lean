/- slices.Clone of rows of ints and of objects gives the same rows anew: for any row that can be made. -/
import Derived.Test.YtfnpaacoijfbfaaPXx0
import Derived.Lib.Walk
import Derived.Lib.SliceRun
namespace Go.Proofs.Ytfnpaacoijfbfaa.H
open Go.RowKit Go.Lib Go.Proofs.YtfnpaacoijfbfaaW.PrintWords Go.Proofs.YtfnpaacoijfbfaaW.PrintLast Go.Proofs.YtfnpaacoijfbfaaW.PrintMore

/-- The cells of a row that is read. -/
theorem row_cells {α : Type} {R : α → List Value → Prop} {size : Nat} {w : World} {ad : Addr} {n : Nat} {ps : List α} (h : ReadsRow R size w (some ad) n ps) (h1 : ∀ x c, R x c → ∀ u ∈ c, u.oneCell' = true) :
    ∃ cs : List Value, Reps R size ps cs ∧ (∀ j u, cs[j]? = some u → w.cell? (ad.add j) = some u) ∧ (∀ u ∈ cs, u.oneCell' = true) := by
  obtain ⟨hl, _, hc⟩ := h
  have hc' : ∀ j p, ps[j]? = some p → ∃ c : List Value, c.length = size ∧ R p c ∧ ∀ i u, c[i]? = some u → w.cell? (ad.add (j * size + i)) = some u := by
    intro j p hj
    have hn : 0 < n := by have := (List.getElem?_eq_some_iff.1 hj).1; omega
    obtain ⟨ad', e, h2⟩ := hc hn
    injection e with e
    subst e
    exact h2 j p hj
  clear hc hl
  suffices H : ∀ (qs : List α) (b : Nat), (∀ j p, qs[j]? = some p → ∃ c : List Value, c.length = size ∧ R p c ∧ ∀ i u, c[i]? = some u → w.cell? (ad.add ((b + j) * size + i)) = some u) →
      ∃ cs : List Value, Reps R size qs cs ∧ (∀ j u, cs[j]? = some u → w.cell? (ad.add (b * size + j)) = some u) ∧ (∀ u ∈ cs, u.oneCell' = true) by
    obtain ⟨cs, g1, g2, g3⟩ := H ps 0 (fun j p hj => by simpa using hc' j p hj)
    exact ⟨cs, g1, fun j u hu => by simpa using g2 j u hu, g3⟩
  intro qs
  induction qs with
  | nil => intro b _; exact ⟨[], Reps.none _ _, fun j u hu => by simp at hu, by simp⟩
  | cons q qs ih =>
    intro b hq
    obtain ⟨c, e1, e2, e3⟩ := hq 0 q rfl
    obtain ⟨cs, g1, g2, g3⟩ := ih (b + 1) (fun j p hj => by
      obtain ⟨c', f1, f2, f3⟩ := hq (j + 1) p (by simpa using hj)
      refine ⟨c', f1, f2, fun i u hu => ?_⟩
      have := f3 i u hu
      rwa [show b + (j + 1) = b + 1 + j by omega] at this)
    refine ⟨c ++ cs, ⟨by rw [List.length_append, g1.1, e1, List.length_cons, Nat.add_mul, Nat.one_mul, Nat.add_comm], ?_⟩, ?_, ?_⟩
    · intro j p hj
      cases j with
      | zero =>
        have : q = p := by simpa using hj
        subst this
        rw [Nat.zero_mul, List.drop_zero, ← e1, List.take_left]
        exact e2
      | succ j =>
        have h2 := g1.2 j p (by simpa using hj)
        rw [Nat.succ_mul, Nat.add_comm, ← List.drop_drop, ← e1, List.drop_left, e1]
        exact h2
    · intro j u hu
      rcases Nat.lt_or_ge j c.length with hlt | hge
      · rw [List.getElem?_append_left hlt] at hu
        simpa using e3 j u hu
      · rw [List.getElem?_append_right hge] at hu
        have := g2 _ u hu
        rw [Nat.succ_mul] at this
        rwa [show b * size + size + (j - c.length) = b * size + j by omega] at this
    · intro u hu
      rcases List.mem_append.1 hu with hu | hu
      · exact h1 _ _ e2 u hu
      · exact g3 u hu

/-- A call of a function with a body enters it. -/
theorem enters_fn {P : Program} {f : FuncId} {fn : Func} {c : Code} (hf : P.funcs[f]? = some fn) (hname : (fn.name == "runtime.NumGoroutine") = false) (hb : fn.body = some c) (args : Array Value) (w : World) : (callFunc f args).run P w = .ok (.enter f args) w := by
  have h1 : fn.name ≠ "runtime.NumGoroutine" := by simpa using hname
  simp [callFunc, hf, h1, hb, mark]
set_option maxHeartbeats 2000000 in
set_option maxRecDepth 100000 in
theorem clone32 (b : Addr) (n c : Nat) (news : List Value) (w : World) (hl : news.length = n * 1) (hn : n ≤ maxLen) (hbig : n * 8 ≤ 140737488355328)
    (hc : ∀ j u, news[j]? = some u → w.cell? (b.add j) = some u) (h1 : ∀ u ∈ news, u.oneCell' = true) :
    Calls Try.prog 32 #[.slice (some b) n c] w fun e w' => ∃ v', e = .returned v' ∧ w'.ownsRow w.heap.size 3 1 v' n news ∧ Below w.heap.size w w' := by
  have hinfo : (Try.prog.info? 3).map (fun i => (i.zero, i.size, i.bytes)) = some (some (.int .i64 0), 1, 8) := by kernel_rfl
  obtain ⟨i0, hi, hz0, hz1, hz2⟩ := info_parts hinfo
  clear hinfo
  have q22 : ∀ (w : World) (a : Option Addr) (n c n' c' : Nat), (binOp .eql 26 (.slice a n c) (.slice none n' c')).run Try.prog w = .ok (.bool a.isNone) w := fun w a n c n' c' => Lib.run_eql_slice_nil w _ _ a n c n' c' Try.underlying26
  have A : Aside0 (∀ j u, news[j]? = some u → w.cell? (b.add j) = some u) := ⟨hc⟩
  clear hc
  go_enter Try.func32, Try.ntmps32
  go_wp2_with (at_builtin; refine wpList_append_own _ rfl _ _ 26 rfl w.heap.size 3 i0 _ 1 8 Try.underlying26 hi hz0 hz1 hz2 rfl (by decide) _ _ _ rfl (World.ownsRow_made w #[] 0 (Nat.le_refl _) (Nat.zero_le _) (by simp)) b n c news rfl ?qc1 ?qc2 ?qc3 ?qc4 ?qc5 ?qc6 ?_)
  case qc1 => exact hl
  case qc2 =>
    intro j u hj
    exact Lib.cell?_alloc_some _ (A.out j u hj)
  case qc3 => exact h1
  case qc4 => rw [Nat.zero_add]; exact hn
  case qc5 => rw [Nat.zero_add]; exact hbig
  case qc6 => simp
  intro v' w1 hown hgrow hnil
  go_wp2
  go_ret
  exact ⟨v', rfl, by simpa using hown, ((Below.refl _ w).alloc (Nat.le_refl _) _).grown hgrow (by simp) (by intro k hk; simp [Value.ownBlock] at hk; omega)⟩
set_option maxHeartbeats 1000000 in
theorem clone32_nil (n c : Nat) (w : World) :
    Calls Try.prog 32 #[.slice none n c] w fun e w' => e = .returned (.slice none 0 0) ∧ w' = w := by
  have q22 : ∀ (w : World) (a : Option Addr) (n c n' c' : Nat), (binOp .eql 26 (.slice a n c) (.slice none n' c')).run Try.prog w = .ok (.bool a.isNone) w := fun w a n c n' c' => Lib.run_eql_slice_nil w _ _ a n c n' c' Try.underlying26
  go_enter Try.func32, Try.ntmps32
  go_wp2
  go_ret
  exact ⟨rfl, rfl⟩
set_option maxHeartbeats 2000000 in
set_option maxRecDepth 100000 in
theorem clone42 (b : Addr) (n c : Nat) (news : List Value) (w : World) (hl : news.length = n * 2) (hn : n ≤ maxLen) (hbig : n * 48 ≤ 140737488355328)
    (hc : ∀ j u, news[j]? = some u → w.cell? (b.add j) = some u) (h1 : ∀ u ∈ news, u.oneCell' = true) :
    Calls Try.prog 42 #[.slice (some b) n c] w fun e w' => ∃ v', e = .returned v' ∧ w'.ownsRow w.heap.size 47 2 v' n news ∧ Below w.heap.size w w' := by
  have hinfo : (Try.prog.info? 47).map (fun i => (i.zero, i.size, i.bytes)) = some (some (.agg #[.slice none 0 0, .slice none 0 0]), 2, 48) := by kernel_rfl
  obtain ⟨i0, hi, hz0, hz1, hz2⟩ := info_parts hinfo
  clear hinfo
  have q22 : ∀ (w : World) (a : Option Addr) (n c n' c' : Nat), (binOp .eql 22 (.slice a n c) (.slice none n' c')).run Try.prog w = .ok (.bool a.isNone) w := fun w a n c n' c' => Lib.run_eql_slice_nil w _ _ a n c n' c' Try.underlying22
  have A : Aside0 (∀ j u, news[j]? = some u → w.cell? (b.add j) = some u) := ⟨hc⟩
  clear hc
  go_enter Try.func42, Try.ntmps42
  go_wp2_with (at_builtin; refine wpList_append_own _ rfl _ _ 22 rfl w.heap.size 47 i0 _ 2 48 Try.underlying22 hi hz0 hz1 hz2 rfl (by decide) _ _ _ rfl (World.ownsRow_made w #[] 0 (Nat.le_refl _) (Nat.zero_le _) (by simp)) b n c news rfl ?qc1 ?qc2 ?qc3 ?qc4 ?qc5 ?qc6 ?_)
  case qc1 => exact hl
  case qc2 =>
    intro j u hj
    exact Lib.cell?_alloc_some _ (A.out j u hj)
  case qc3 => exact h1
  case qc4 => rw [Nat.zero_add]; exact hn
  case qc5 => rw [Nat.zero_add]; exact hbig
  case qc6 => simp
  intro v' w1 hown hgrow hnil
  go_wp2
  go_ret
  exact ⟨v', rfl, by simpa using hown, ((Below.refl _ w).alloc (Nat.le_refl _) _).grown hgrow (by simp) (by intro k hk; simp [Value.ownBlock] at hk; omega)⟩
set_option maxHeartbeats 1000000 in
theorem clone42_nil (n c : Nat) (w : World) :
    Calls Try.prog 42 #[.slice none n c] w fun e w' => e = .returned (.slice none 0 0) ∧ w' = w := by
  have q22 : ∀ (w : World) (a : Option Addr) (n c n' c' : Nat), (binOp .eql 22 (.slice a n c) (.slice none n' c')).run Try.prog w = .ok (.bool a.isNone) w := fun w a n c n' c' => Lib.run_eql_slice_nil w _ _ a n c n' c' Try.underlying22
  go_enter Try.func42, Try.ntmps42
  go_wp2
  go_ret
  exact ⟨rfl, rfl⟩

/-- What is read, copied into a row of the call's own: what its elements lead to is what it was. -/
theorem N_of_own {α : Type} {d : Kd α} {e n : Nat} {W w1 : World} {ok : Nat → Prop} {v : Value} {xs : List α} {news : List Value} (hn : xs.length = n) (ho : w1.ownsRow W.heap.size e d.sz v n news) (hr : Reps (fun x c => Kd.FK d W ok x c) d.sz xs news) (hb : Below W.heap.size W w1) :
    Kd.N d e w1 W.heap.size (fun k => ok k ∨ W.heap.size ≤ k) v xs := by
  subst hn
  refine ⟨fun k hk => .inr (own_base ho k hk), Kd.chunks d.sz xs.length news, Kd.chunks_length _ _ _, ⟨fun k hk => hk.symm, news, by rw [Kd.chunks_length]; exact ho, Kd.reps_raw hr (fun x c hK => ⟨d.K_len (Kd.FK_now hK), d.K_one (Kd.FK_now hK)⟩)⟩, fun j x c hx hc => ?_⟩
  obtain ⟨hj, _⟩ := List.getElem?_eq_some_iff.1 hx
  have e2 := Kd.chunks_get hc
  subst e2
  refine Kd.FK_mono (Kd.FK_below (Kd.FK_bound (hr.2 j x hx)) hb) (fun k hk => ⟨.inl hk.1, fun he => ?_⟩)
  have h1 := own_base ho k he.symm
  have h2 := hk.2
  omega
/-- The same of whole numbers. -/
theorem R_of_own_int {k : IntKind} {e n : Nat} {W w1 : World} {v : Value} {xs : List Int} {news : List Value} (hn : xs.length = n) (ho : w1.ownsRow W.heap.size e 1 v n news) (hr : Reps (fun x c => (Kd.int k).K W x c) 1 xs news) :
    Kd.R (Kd.int k) e w1 W.heap.size (fun _ => True) v xs := by
  subst hn
  exact ⟨fun _ _ => trivial, news, ho, hr⟩

theorem row_nil {α : Type} {R : α → List Value → Prop} {size : Nat} {w : World} {n : Nat} {ps : List α} (h : ReadsRow R size w none n ps) : ps = [] := by
  have h1 := h.1
  rcases Nat.eq_zero_or_pos n with h0 | h0
  · exact List.length_eq_zero_iff.1 (by omega)
  · obtain ⟨ad, e, _⟩ := h.2.2 h0
    cases e
theorem clone32_any (A0 : Option Addr) (c0 : Nat) (l0 : List Int) (w : World) (hr0 : Kd.C (Kd.int .i64) w A0 l0.length l0) (hl : l0.length ≤ 17592186044416) :
    Calls Try.prog 32 #[.slice A0 l0.length c0] w fun e w' => ∃ v0_ : Value, e = .returned (v0_) ∧ Kd.R (Kd.int .i64) 3 w' w.heap.size (fun _ => True) v0_ l0 ∧ Below w.heap.size w w' := by
  cases A0 with
  | none =>
    obtain rfl := row_nil hr0
    refine (clone32_nil _ _ w).mono ?_
    rintro e w' ⟨rfl, rfl⟩
    exact ⟨_, rfl, Kd.R_nil _ _ _ _ _, Below.refl _ _⟩
  | some ad =>
    obtain ⟨cs, g1, g2, g3⟩ := row_cells hr0 (fun x c h => (Kd.int .i64).K_one h)
    refine (clone32 ad _ c0 cs w g1.1 (by unfold maxLen; exact hr0.2.1) (by omega) g2 g3).mono ?_
    rintro e w' ⟨v', rfl, hown, hb⟩
    exact ⟨v', rfl, R_of_own_int rfl hown g1, hb⟩
theorem clone42_any (P0_ : Nat → Prop) (A0 : Option Addr) (c0 : Nat) (l0 : List PX.S47) (w : World) (hs0 : Kd.V PX.k47 47 w w.heap.size (fun k_ => P0_ k_) (.slice A0 l0.length c0) l0) (hl : l0.length ≤ 2932031007402) :
    Calls Try.prog 42 #[.slice A0 l0.length c0] w fun e w' => ∃ v0_ : Value, e = .returned (v0_) ∧ Kd.N PX.k47 47 w' w.heap.size (fun k_ => (P0_ k_ ∨ w.heap.size ≤ k_)) v0_ l0 ∧ Below w.heap.size w w' := by
  have hf := Kd.V_F hs0
  have hr := Kd.F_rows hf
  cases A0 with
  | none =>
    obtain rfl := row_nil hr
    refine (clone42_nil _ _ w).mono ?_
    rintro e w' ⟨rfl, rfl⟩
    exact ⟨_, rfl, Kd.N_nil _ _ _ _ _, Below.refl _ _⟩
  | some ad =>
    obtain ⟨cs, g1, g2, g3⟩ := row_cells hr (fun x c h => PX.k47.K_one (Kd.FK_now h))
    refine (clone42 ad _ c0 cs w g1.1 (by unfold maxLen; exact hr.2.1) (by omega) g2 g3).mono ?_
    rintro e w' ⟨v', rfl, hown, hb⟩
    exact ⟨v', rfl, N_of_own rfl hown g1 hb, hb⟩
end Go.Proofs.Ytfnpaacoijfbfaa.H
