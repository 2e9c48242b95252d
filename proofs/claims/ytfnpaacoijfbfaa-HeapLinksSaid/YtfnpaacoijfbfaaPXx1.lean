-- written by xp.py (ours) over the translation
import Derived.Test.YtfnpaacoijfbfaaPXx0
import Derived.Test.YtfnpaacoijfbfaaHd
namespace Go.Proofs.Ytfnpaacoijfbfaa.PX
open Go.RowKit Go.Proofs.YtfnpaacoijfbfaaW.PrintWords Go.Proofs.YtfnpaacoijfbfaaW.PrintLast Go.Proofs.YtfnpaacoijfbfaaW.PrintMore
attribute [local go_sem] max2_int min2_int max_two min_two max_three min_three max_four min_four   -- for this text's walks alone
set_option linter.unusedVariables false
set_option linter.unusedSimpArgs false

/-! ### heap_Right: function 13 -/
def heap_Right.f (l0_0 : List (S47)) : Option (Bool) := some (H.rightB l0_0)
set_option maxHeartbeats 8000000 in
set_option maxRecDepth 100000 in
theorem heap_Right.calls (A0_0 : Option Addr) (c0_0 : Nat) (l0_0 : List (S47)) (r : Bool) (w : World) (hr0_0 : Kd.C k47 w A0_0 l0_0.length l0_0) (hc0_0 : l0_0.length ≤ c0_0) (h : heap_Right.f l0_0 = some r) :
  Calls Try.prog 13 #[.agg #[.slice A0_0 l0_0.length c0_0]] w fun e w' => e = .returned (.bool r) ∧ Below w.heap.size w w' := by
 obtain rfl := Option.some.inj h
 exact H.right_any A0_0 c0_0 l0_0 w hr0_0

/-! ### heap_counted: function 26 -/
def heap_counted.f (a0 : Int) : Option (Bool) := if a0 ≥ 0 then (some (decide (a0 ≤ 8))) else (some false)
set_option maxHeartbeats 8000000 in
set_option maxRecDepth 100000 in
theorem heap_counted.calls (a0 : Int) (r : Bool) (w : World) (h : heap_counted.f a0 = some r) :
  Calls Try.prog 26 #[.int .i64 a0] w fun e w' => e = .returned (.bool r) ∧ Drawn0 w w' := by
 have H : (if a0 ≥ 0 then (some (decide (a0 ≤ 8))) else (some false)) = some r := h
 clear h
 by_cases c2 : a0 ≥ 0
 ·rw [if_pos c2] at H
  have c2b0 : decide (0 ≤ a0) = true := decide_eq_true c2
  clear c2
  obtain rfl := Option.some.inj H
  go_enter Try.func26, Try.ntmps26
  go_wp2
  go_ret
  exact ⟨by first | rfl | (simp; done) | (simp [*]; done), by repeat (first | exact Drawn0.refl _ | apply Drawn0.step)⟩
 ·rw [if_neg c2] at H
  have c2b0 : decide (0 ≤ a0) = false := decide_eq_false c2
  clear c2
  obtain rfl := Option.some.inj H
  go_enter Try.func26, Try.ntmps26
  go_wp2
  go_ret
  exact ⟨by first | rfl | (simp; done) | (simp [*]; done), by repeat (first | exact Drawn0.refl _ | apply Drawn0.step)⟩

/-! ### api_Obj_27: function 27 -/
def api_Obj_27.f (l0 : List (S47)) : Option ((List (S47))) := some l0
set_option maxHeartbeats 8000000 in
set_option maxRecDepth 100000 in
theorem api_Obj_27.calls (P0_ : Nat → Prop) (A0 : Option Addr) (c0 : Nat) (l0 : List (S47)) (r : List (S47)) (w : World) (hs0 : Kd.V k47 47 w w.heap.size (fun k_ => P0_ k_) (.slice A0 l0.length c0) l0) (h : api_Obj_27.f l0 = some r) :
  Calls Try.prog 27 #[.slice A0 l0.length c0] w fun e w' => ∃ v0_ : Value, e = .returned (v0_) ∧ Kd.VC k47 47 w' w.heap.size (fun k_ => (P0_ k_ ∨ w.heap.size ≤ k_)) v0_ r ∧ Below w.heap.size w w' := by
 obtain rfl : l0 = r := Option.some.inj h
 obtain ⟨A, c, he, hle, hf⟩ := hs0
 injection he with e1 e2 e3
 subst e1; subst e3
 refine (H.clip27 A0 l0.length c0 w hle).mono ?_
 rintro e w' ⟨rfl, rfl⟩
 exact ⟨_, rfl, ⟨⟨_, rfl⟩, _, _, rfl, Nat.le_refl _, Kd.F_mono hf (fun k_ hk => .inl hk)⟩, Below.refl _ _⟩

/-! ### xp_cat: an append to a row without spare cells -/
def xp_cat.f (l0 : List (S47)) (l1 : List (S47)) : Option ((List (S47))) := if 0 < l1.length ∧ l0.length + l1.length < 2932031007402 then some (l0 ++ l1) else none
theorem xp_cat.step {ops : Array Oper} {oi : Oper} {N : Option Tmp} {a : Act} {w : World} {K : Act → World → Prop} {Q : Exit → Act → World → Prop} (hw : Region.wanted oi (yielded ops a.tmps) = true) (hN : oi.dst = N) (s x : Operand) (hop : oi.op = .call { callee := .builtin .append, args := #[s, x], argTypes := #[22, 22] })
  (P0_ : Nat → Prop) (A0 : Option Addr) (c0 : Nat) (l0 : List (S47)) (P1_ : Nat → Prop) (A1 : Option Addr) (c1 : Nat) (l1 : List (S47)) (r : List (S47)) (hs : a.eval s = .slice A0 l0.length c0) (hx : a.eval x = .slice A1 l1.length c1)
  (hs0 : Kd.VC k47 47 w w.heap.size (fun k_ => P0_ k_) (.slice A0 l0.length c0) l0) (hs1 : Kd.V k47 47 w w.heap.size (fun k_ => P1_ k_) (.slice A1 l1.length c1) l1) (h : xp_cat.f l0 l1 = some r)
  (hK : ∀ e w', (∃ v0_ : Value, e = Ending.returned (v0_) ∧ Kd.N k47 47 w' w.heap.size (fun k_ => ((P0_ k_ ∨ P1_ k_) ∨ w.heap.size ≤ k_)) v0_ r ∧ Below w.heap.size w w') → ∃ v, e = .returned v ∧ K (a.put N v) w') :
  if Region.wanted oi (yielded ops a.tmps) = true then Oper.wp Try.prog oi a w K Q else K (a.put N undef) w := by
 obtain ⟨i0, hi, hz0, hz1, hz2⟩ := info_parts info47
 have h' : (if 0 < l1.length ∧ l0.length + l1.length < 2932031007402 then some (l0 ++ l1) else none) = some r := h
 clear h
 by_cases hc : 0 < l1.length ∧ l0.length + l1.length < 2932031007402
 ·rw [if_pos hc] at h'
  obtain rfl := Option.some.inj h'
  obtain ⟨⟨A, he⟩, hv⟩ := hs0
  injection he with e1 _ e3
  subst e1; subst e3
  have hf0 := Kd.V_F hv
  have hf1 := Kd.V_F hs1
  have hr0 := Kd.F_rows hf0
  have hr1 := Kd.F_rows hf1
  obtain ⟨ad1, e1, _⟩ := hr1.2.2 hc.1
  subst e1
  obtain ⟨news, g1, g2, g3⟩ := H.row_cells hr1 (fun x c h => k47.K_one (Kd.FK_now h))
  have key : ∃ v' w' olds, (Builtin.append_ #[22, 22] oi.type #[.slice A0 l0.length l0.length, .slice (some ad1) l1.length c1]).run Try.prog w = .ok v' w' ∧ Reps (fun x c => Kd.FK k47 w (fun k_ => P0_ k_) x c) k47.sz l0 olds ∧ w'.ownsRow w.heap.size 47 2 v' (l0.length + l1.length) (olds ++ news) ∧ Below w.heap.size w w' := by
   cases A0 with
   | none =>
    obtain rfl := H.row_nil hr0
    obtain ⟨v', w', hr, ho, hg, _, _⟩ := run_append_own_at (P := Try.prog) w w.heap.size 22 oi.type 47 i0 _ 2 48 Try.underlying22 hi hz0 hz1 hz2 rfl (by decide) (.slice none 0 0) 0 [] (own_nil _ _ _ _) ad1 l1.length c1 news (by rw [g1.1]; rfl) g2 g3 (by simp only [maxLen]; omega) (by omega) (Nat.le_refl _)
    exact ⟨v', w', [], hr, Reps.none _ _, ho, (Below.refl _ _).grown hg (Nat.le_refl _) (fun k hk => by simp [Value.ownBlock] at hk)⟩
   | some ad0 =>
    obtain ⟨olds, f1, f2, f3⟩ := H.row_cells hr0 (fun x c h => k47.K_one (Kd.FK_now h))
    obtain ⟨v', w', hr, ho, hg⟩ := run_append_arg_grows (P := Try.prog) (w := w) 22 oi.type 47 i0 _ 2 48 Try.underlying22 hi hz0 hz1 hz2 rfl (by decide) ad0 l0.length l0.length olds (by rw [f1.1]; rfl) f2 ad1 l1.length c1 news (by rw [g1.1]; rfl) g2 (by omega) (by simp only [maxLen]; omega) (by omega)
    exact ⟨v', w', olds, hr, f1, ho, (Below.refl _ _).grown hg (Nat.le_refl _) (fun k hk => by cases hk)⟩
  obtain ⟨v', w', olds, hrun, f1, ho, hb⟩ := key
  have hreps : Reps (fun x c => Kd.FK k47 w (fun k_ => P0_ k_ ∨ P1_ k_) x c) k47.sz (l0 ++ l1) (olds ++ news) := Kd.reps_append (f1.imp_ (fun _ _ hp => Kd.FK_mono hp (fun _ hk => .inl hk))) (g1.imp_ (fun _ _ hp => Kd.FK_mono hp (fun _ hk => .inr hk)))
  have hN2 := H.N_of_own (by rw [List.length_append]) ho hreps hb
  obtain ⟨v, e2, hk⟩ := hK _ _ ⟨v', rfl, hN2, hb⟩
  injection e2 with e2
  subst e2
  subst hN
  rw [if_pos hw]
  unfold Oper.wp execOp
  simp only [hop, resolve, invoke, builtin, Sem.run_bind, Sem.run_pure, Result.andThen_ok, List.map_toArray, List.map_cons, List.map_nil, hs, hx, hrun]
  exact hk
 ·rw [if_neg hc] at h'
  cases h'

end Go.Proofs.Ytfnpaacoijfbfaa.PX
