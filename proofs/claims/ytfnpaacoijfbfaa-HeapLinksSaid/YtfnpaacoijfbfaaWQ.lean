/- Laws of a queue that a whole row is put onto, and of a row without spare cells: no program. -/
import Derived.Test.YtfnpaacoijfbfaaWMore
namespace Go.Proofs.YtfnpaacoijfbfaaW.PrintWords
open Go.RowKit
namespace Kd
variable {P : Program} {ops : Array Oper} {rest : List Oper} {o : Oper} {a : Act} {Q' : Exit → Act → World → Prop} {α : Type}
/-- append(v, ys...), v a row that may begin inside its block. -/
theorem Q_append_rows (d : Kd α) {Rr : α → List Value → Prop} {w0 W : World} (base : Nat) (hgd : o.guard = none) (s x : Operand) (t e : TypeId) (z : Value) (bytes : Nat)
    (ho : o.op = .call { callee := .builtin .append, args := #[s, x], argTypes := #[t, t] })
    (ht : P.underlying t = some (.slice e)) (hinfo : (P.info? e).map (fun i => (i.zero, i.size, i.bytes)) = some (some z, d.sz, bytes)) (hz : z.cells.size = d.sz) (hs0 : 0 < d.sz) (hb0 : 0 < bytes)
    (v : Value) (xs ys : List α) (A : Option Addr) (m c : Nat) (ok okp : Nat → Prop) (hs : a.eval s = v) (hx : a.eval x = .slice A m c)
    (HO : d.Q e W base ok v xs) (HR : ReadsRow Rr d.sz W A m ys) (hKM : ∀ x cs, Rr x cs → d.M W base okp x cs) (hokp : ∀ k, okp k → ok k ∧ some k ≠ v.ownBlock) (hfresh : ∀ k, W.heap.size ≤ k → ok k)
    (HB : Below base w0 W) (hbase : base ≤ W.heap.size) (hl : (xs.length + m) * bytes ≤ 140737488355328)
    (h : ∀ v1 w1, d.Q e w1 base ok v1 (xs ++ ys) → Below base w0 w1 → W.grownBy w1 v.ownBlock → (v1.ownBlock = v.ownBlock ∨ ∃ b, v1.ownBlock = some b ∧ W.heap.size ≤ b) → wpList P ops Q' rest (a.put o.dst v1) w1) :
    wpList P ops Q' (o :: rest) a W := by
  obtain ⟨i0, hi, hzz⟩ := Option.map_eq_some_iff.1 hinfo
  simp only [Prod.mk.injEq] at hzz
  obtain ⟨hz0, hz1, hz2⟩ := hzz
  have hm : ys.length = m := HR.1
  have hlen : xs.length + m ≤ 140737488355328 := Nat.le_trans (Nat.le_mul_of_pos_right _ hb0) hl
  obtain ⟨hok, inner, hown, hr⟩ := HO
  have hrun : ∃ v1 w1, (Builtin.append_ #[t, t] o.type #[v, .slice A m c]).run P W = .ok v1 w1 ∧ d.Q e w1 base ok v1 (xs ++ ys) ∧ W.grownBy w1 v.ownBlock ∧ (v1.ownBlock = v.ownBlock ∨ ∃ b, v1.ownBlock = some b ∧ W.heap.size ≤ b) := by
    rcases Nat.eq_zero_or_pos m with h0 | h0
    · subst h0
      obtain rfl : ys = [] := List.eq_nil_of_length_eq_zero hm
      refine ⟨v, W, ?_, by rw [List.append_nil]; exact ⟨hok, inner, hown, hr⟩, World.grownBy.refl W _, .inl rfl⟩
      rcases hown.2 with ⟨hn, A', rfl, _⟩ | ⟨g, off, cap, cur, rfl, _, _, hnc, _⟩
      · have hx0 : xs = [] := List.eq_nil_of_length_eq_zero hn
        subst hx0
        cases A <;> cases A' <;> simp [Builtin.append_, run_underlying ht, sizeOf, typeInfo, hi, Builtin.lenOf, Builtin.firstCells, loadCells, loadCellsFrom, storeCells]
      · cases A <;> simp [Builtin.append_, run_underlying ht, sizeOf, typeInfo, hi, Builtin.lenOf, Builtin.firstCells, loadCells, loadCellsFrom, hnc, storeCells]
    · obtain ⟨ad, rfl, _⟩ := HR.2.2 h0
      obtain ⟨news, hnr, hnc⟩ := ReadsRow.inner_ HR
      have hnM : Reps (d.M W base okp) d.sz ys news := hnr.imp_ (fun p c hp => hKM p c hp)
      have hone : ∀ u ∈ news, u.oneCell' = true := by
        intro u hu
        obtain ⟨q, hq, rfl⟩ := List.mem_iff_getElem.1 hu
        have hql : q / d.sz < ys.length := by
          rw [Nat.div_lt_iff_lt_mul hs0]
          rw [← hnM.1]
          exact hq
        have hc := hnM.2 (q / d.sz) _ (List.getElem?_eq_getElem hql)
        refine d.K_one (d.K_of_M hc) _ ?_
        rw [List.mem_iff_getElem?]
        refine ⟨q % d.sz, ?_⟩
        rw [List.getElem?_take, if_pos (Nat.mod_lt _ hs0), List.getElem?_drop, Nat.mul_comm, Nat.div_add_mod, List.getElem?_eq_getElem hq]
      obtain ⟨v1, w1, hrun, h2, hg, hat⟩ := q_append (P := P) W base t o.type e i0 z d.sz bytes ht hi hz0 hz1 hz2 hz hs0 v xs.length inner hown ad m c news (by rw [hnM.1, hm]) hnc hone h0 (by simp only [maxLen]; omega) hl hbase
      have hne : ∀ k, some k ≠ v.ownBlock → k < W.heap.size → some k ≠ v1.ownBlock := by
        intro k hk hlt
        rcases hat with hat | ⟨b, hb, hle⟩
        · rw [hat]; exact hk
        · rw [hb]
          intro he
          injection he with he
          omega
      have step : ∀ {q : α} {c : List Value} {o : Nat → Prop}, d.M W base o q c → (∀ k, o k → ok k ∧ some k ≠ v.ownBlock) → d.M w1 base (fun k => ok k ∧ some k ≠ v1.ownBlock) q c := by
        intro q c o hq ho
        have h1 := d.M_move (w1 := w1) (fun k hk => hg.block k hk.2.2.1 (ho k hk.1).2) (d.M_bound hq)
        exact d.M_mono (fun k hk => ⟨(ho k hk.1).1, hne k (ho k hk.1).2 hk.2.2.1⟩) h1
      refine ⟨v1, w1, hrun, ⟨fun k hk => ?_, inner ++ news, by rw [List.length_append, hm]; exact h2, reps_append (hr.imp_ (fun _ _ hq => step hq (fun _ hk => hk))) (hnM.imp_ (fun _ _ hq => step hq hokp))⟩, hg, hat⟩
      rcases hat with hat | ⟨b, hb, hle⟩
      · exact hok k (hat ▸ hk)
      · rw [hb] at hk
        injection hk with hk
        exact hfresh k (by omega)
  obtain ⟨v1, w1, hr1, h1, hg, hat⟩ := hrun
  refine wpList_plain hgd fun K hK => ?_
  unfold Oper.wp execOp
  simp only [ho, resolve, invoke, builtin, Sem.run_bind, Sem.run_pure, Result.andThen_ok, List.map_toArray, List.map_cons, List.map_nil, hs, hx, hr1]
  exact hK _ _ (h v1 w1 h1 (HB.grown hg hbase (fun k hk => (q_typed hown k hk).1)) hg hat)
/-- A row that is only read, without spare cells. -/
def VC {α : Type} (d : Kd α) (e : Nat) (W : World) (base : Nat) (ok : Nat → Prop) (v : Value) (xs : List α) : Prop := (∃ A, v = .slice A xs.length xs.length) ∧ V d e W base ok v xs
section
variable {d : Kd α} {e base base' g : Nat} {ok ok' : Nat → Prop} {w W w1 : World} {u v : Value} {xs : List α}
theorem VC_slice (h : VC d e W base ok v xs) : ∃ A c, v = .slice A xs.length c := V_slice h.2
theorem VC_mono (h : VC d e W base ok v xs) (hok : ∀ k, ok k → ok' k) : VC d e W base ok' v xs := ⟨h.1, V_mono h.2 hok⟩
theorem VC_lower (h : VC d e W base ok v xs) (hb : base' ≤ base) : VC d e W base' ok v xs := ⟨h.1, V_lower h.2 hb⟩
theorem VC_below (h : VC d e W base ok v xs) (hb : Below W.heap.size W w1) : VC d e w1 base ok v xs := ⟨h.1, V_below h.2 hb⟩
theorem VC_alloc (h : VC d e W base ok v xs) (o : Obj) : VC d e (W.alloc o) base ok v xs := ⟨h.1, V_alloc h.2 o⟩
theorem VC_drew (h : VC d e W base ok v xs) : VC d e W.drew base ok v xs := ⟨h.1, V_drew h.2⟩
theorem VC_drewN (h : VC d e W base ok v xs) (m : Nat) : VC d e (W.drewN m) base ok v xs := ⟨h.1, V_drewN h.2 m⟩
theorem VC_far (h : VC d e W base ok v xs) {p : Addr} (hok : ∀ k, ok k → k ≠ p.block) (u : Value) : VC d e (W.setCell p u) base ok v xs := ⟨h.1, V_far h.2 hok u⟩
theorem VC_elder' (h : VC d e W base ok v xs) (hbase : ∀ k, u.ownBlock = some k → W.heap.size ≤ k) (hb : Below W.heap.size W w1) : VC d e w1 base (fun k => ok k ∧ some k ≠ u.ownBlock) v xs := ⟨h.1, V_elder' h.2 hbase hb⟩
theorem VC_elderB (h : VC d e W base ok v xs) (a : Nat) (ha : W.heap.size ≤ a) : VC d e W base (fun k => ok k ∧ k ≠ a) v xs := ⟨h.1, V_elderB h.2 a ha⟩
theorem VC_old (h : VC d e W base ok v xs) (hb : Below W.heap.size W w1) : VC d e w1 base (fun k => ok k ∧ k < W.heap.size) v xs := ⟨h.1, V_old h.2 hb⟩
end
end Kd
theorem zq1 : type_of% @blk_drewN := @blk_drewN
theorem zq2 : type_of% @blk_drew := @blk_drew
theorem zq3 : type_of% @blk_alloc := @blk_alloc
theorem zq4 : type_of% @pw_below_drewN := @pw_below_drewN
theorem zq5 : type_of% @below_alloc := @below_alloc
theorem zq6 : type_of% @below_drew1 := @below_drew1
end Go.Proofs.YtfnpaacoijfbfaaW.PrintWords
