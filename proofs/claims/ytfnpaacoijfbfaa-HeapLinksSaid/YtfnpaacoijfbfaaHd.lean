/- heap.Right answers whether no object is wrong, and slices.Clip gives the same row: for any heap. -/
import Derived.Test.YtfnpaacoijfbfaaHc
import Derived.Outline
import Derived.Laws.EntriesVeiled
namespace Go.Proofs.Ytfnpaacoijfbfaa.H
open Go.RowKit Go.Lib Go.Proofs.YtfnpaacoijfbfaaW.PrintWords Go.Proofs.YtfnpaacoijfbfaaW.PrintLast Go.Proofs.YtfnpaacoijfbfaaW.PrintMore

/-- What the outer closure says of an object. -/
def objB (n : Nat) (o : PX.S47) : Bool := decide ((8 : Int) < (o.f0.length : Int)) || decide ((8 : Int) < (o.f1.length : Int)) || o.f0.any (badB n)

set_option maxHeartbeats 1000000 in
theorem closure30 (o : PX.S47) (R I : Option Addr) (cr ci : Nat) (B C : Nat) (hA : Option Addr) (hn hc : Nat) (W : World) (hr : Kd.C (Kd.int .i64) W R o.f0.length o.f0)
    (hB : W.cell? ⟨B, 0, none⟩ = some (.slice hA hn hc)) (hC : W.cell? ⟨C, 0, none⟩ = some (.func (.func 28) #[] #[.pointer (some ⟨B, 0, none⟩)])) :
    Calls Try.prog 30 #[.agg #[.slice R o.f0.length cr, .slice I o.f1.length ci], .pointer (some ⟨C, 0, none⟩)] W fun e w' => e = .returned (.bool (objB hn o)) ∧ Below W.heap.size W w' := by
  have hu47 := Try.underlying47
  have hlB := World.block_lt_of_cell? W _ hB
  have hlC := World.block_lt_of_cell? W _ hC
  have hcon : ∀ W1, Below W.heap.size W W1 → Calls Try.prog 31 #[.slice R o.f0.length cr, .func (.func 28) #[] #[.pointer (some ⟨B, 0, none⟩)]] W1 fun e w' => e = .returned (.bool (o.f0.any (badB hn))) ∧ Below W1.heap.size W1 w' :=
    fun W1 hb => contains31_any B hA hn hc R cr o.f0 W1 (Kd.C_below hr hb) (pw_cell_below hb hB)
  have HCON := Aside0.mk hcon
  clear hcon
  unfold objB
  generalize o.f0.any (badB hn) = z at HCON
  clear hB hr
  obtain ⟨f0, f1⟩ := o
  simp only at HCON ⊢
  generalize f0.length = n0 at HCON
  generalize f1.length = n1
  clear f0 f1
  have hne : C ≠ W.heap.size := by have := hlC; simp only at this; omega
  cases hx : decide ((8 : Int) < (n0 : Int)) with
  | true =>
    go_enter Try.func30, Try.ntmps30
    go_wp2_with fail
    go_ret
    exact ⟨by simp, by repeat (first | exact Below.refl _ _ | apply below_drew | apply below_alloc)⟩
  | false =>
    cases hy : decide ((8 : Int) < (n1 : Int)) with
    | true =>
      go_enter Try.func30, Try.ntmps30
      go_wp2_with fail
      go_ret
      exact ⟨by simp, by repeat (first | exact Below.refl _ _ | apply below_drew | apply below_alloc)⟩
    | false =>
      go_enter Try.func30, Try.ntmps30
      go_wp2_with fail
      refine (HCON.out _ (by repeat (first | exact Below.refl _ _ | apply below_drew | apply below_alloc))).mono ?_
      rintro e w' ⟨rfl, hb'⟩
      go_wp2_with fail
      go_ret
      exact ⟨by simp, (show Below W.heap.size W _ by repeat (first | exact Below.refl _ _ | apply below_drew | apply below_alloc)).trans (hb'.mono (by simp))⟩
end Go.Proofs.Ytfnpaacoijfbfaa.H
namespace Go.Proofs.Ytfnpaacoijfbfaa.H
open Go.RowKit Go.Lib Go.Proofs.YtfnpaacoijfbfaaW.PrintWords Go.Proofs.YtfnpaacoijfbfaaW.PrintLast Go.Proofs.YtfnpaacoijfbfaaW.PrintMore

theorem contains29_any (B C : Nat) (hA : Option Addr) (hn hc : Nat) (A : Option Addr) (c : Nat) (l : List PX.S47) (w : World) (hr : Kd.C PX.k47 w A l.length l)
    (hB : w.cell? ⟨B, 0, none⟩ = some (.slice hA hn hc)) (hC : w.cell? ⟨C, 0, none⟩ = some (.func (.func 28) #[] #[.pointer (some ⟨B, 0, none⟩)])) :
    Calls Try.prog 29 #[.slice A l.length c, .func (.func 30) #[] #[.pointer (some ⟨C, 0, none⟩)]] w fun e w' => e = .returned (.bool (l.any (objB hn))) ∧ Below w.heap.size w w' := by
  have eg : ∀ args w, (callFunc 30 args).run Try.prog w = .ok (.enter 30 args) w := enters_fn Try.func30 (by kernel_rfl) rfl
  cases A with
  | none =>
    obtain rfl := row_nil hr
    exact containsFunc29_zero _ _ _ _
  | some ad =>
    have hall : (List.range' 0 l.length).any (fun j => objB hn (l.getD j PX.z47)) = l.any (objB hn) := by
      rw [Bool.eq_iff_iff, List.any_eq_true, List.any_eq_true]
      constructor
      · rintro ⟨j, hj, hb⟩
        rw [List.mem_range'_1] at hj
        have hlt : j < l.length := by omega
        refine ⟨l[j], List.getElem_mem hlt, ?_⟩
        rwa [List.getD_eq_getElem?_getD, List.getElem?_eq_getElem hlt] at hb
      · rintro ⟨x, hx, hb⟩
        obtain ⟨j, hlt, rfl⟩ := List.getElem_of_mem hx
        refine ⟨j, by rw [List.mem_range'_1]; omega, ?_⟩
        rwa [List.getD_eq_getElem?_getD, List.getElem?_eq_getElem hlt]
    rw [← hall]
    have hx : ∀ j, ∃ v : Value × Value, j < l.length → w.cell? (ad.add (j * 2)) = some v.1 ∧ w.cell? ⟨(ad.add (j * 2)).block, (ad.add (j * 2)).off + 1, none⟩ = some v.2 ∧
        ∃ R cr I ci, v.1 = .slice R (l.getD j PX.z47).f0.length cr ∧ v.2 = .slice I (l.getD j PX.z47).f1.length ci ∧ Kd.C (Kd.int .i64) w R (l.getD j PX.z47).f0.length (l.getD j PX.z47).f0 := by
      intro j
      by_cases hj : j < l.length
      · obtain ⟨ad', A0, c0, A1, c1, he, h0, h1, _, g0, _, _⟩ := PX.at_T47 hr (j : Int) (by omega) (by omega)
        injection he with he
        subst he
        simp only [Int.toNat_natCast, PX.rd_T47] at h0 h1 g0
        exact ⟨(_, _), fun _ => ⟨h0, h1, _, _, _, _, rfl, rfl, g0⟩⟩
      · exact ⟨(.slice none 0 0, .slice none 0 0), fun h => absurd h hj⟩
    refine containsFunc29 30 _ eg ad l.length c (fun j => (hx j).choose.1) (fun j => (hx j).choose.2) (fun j => objB hn (l.getD j PX.z47)) w hr.2.1 ?_ ?_ ?_
    · intro j hj
      have := (hx j).choose_spec hj
      exact ⟨this.1, this.2.1⟩
    · intro j hj
      obtain ⟨_, _, R, cr, I, ci, e1, e2, _⟩ := (hx j).choose_spec hj
      exact ⟨by rw [e1]; rfl, by rw [e2]; rfl⟩
    · intro j hj W hb
      obtain ⟨_, _, R, cr, I, ci, e1, e2, hC1⟩ := (hx j).choose_spec hj
      rw [e1, e2]
      exact (closure30 _ R I cr ci B C hA hn hc W (Kd.C_below hC1 hb) (pw_cell_below hb hB) (pw_cell_below hb hC)).mono fun e w' ⟨he, hb'⟩ => ⟨he, hb.trans (hb'.mono hb.size)⟩

def rightB (l : List PX.S47) : Bool := !l.any (objB l.length)
set_option maxHeartbeats 1000000 in
theorem right_any (A : Option Addr) (c : Nat) (l : List PX.S47) (w : World) (hr : Kd.C PX.k47 w A l.length l) :
    Calls Try.prog 13 #[.agg #[.slice A l.length c]] w fun e w' => e = .returned (.bool (rightB l)) ∧ Below w.heap.size w w' := by
  have hcon : ∀ W1 : World, Below w.heap.size w W1 → ∀ B C : Nat, W1.cell? ⟨B, 0, none⟩ = some (.slice A l.length c) → W1.cell? ⟨C, 0, none⟩ = some (.func (.func 28) #[] #[.pointer (some ⟨B, 0, none⟩)]) →
      Calls Try.prog 29 #[.slice A l.length c, .func (.func 30) #[] #[.pointer (some ⟨C, 0, none⟩)]] W1 fun e w' => e = .returned (.bool (l.any (objB l.length))) ∧ Below W1.heap.size W1 w' :=
    fun W1 hb B C h1 h2 => contains29_any B C A l.length c A c l W1 (Kd.C_below hr hb) h1 h2
  have HCON := Aside0.mk hcon
  clear hcon hr
  unfold rightB
  generalize l.any (objB l.length) = z at HCON
  generalize l.length = n at HCON
  have hu24 := Try.underlying24
  go_enter Try.func13, Try.ntmps13
  go_wp2_with fail
  refine (HCON.out _ (by repeat (first | exact Below.refl _ _ | apply below_alloc)) w.heap.size (w.heap.size + 1) (by simp) (by simp)).mono ?_
  rintro e w' ⟨rfl, hb'⟩
  go_wp2_with fail
  go_ret
  exact ⟨rfl, (show Below w.heap.size w _ by repeat (first | exact Below.refl _ _ | apply below_alloc)).trans (hb'.mono (by simp; omega))⟩
theorem clip27 (A : Option Addr) (n c : Nat) (w : World) (hn : n ≤ c) : Calls Try.prog 27 #[.slice A n c] w fun e w' => e = .returned (.slice A n n) ∧ w' = w := by
  have hu := Try.underlying22
  cases A with
  | none =>
    go_enter Try.func27, Try.ntmps27
    go_wp2
    go_ret
    exact ⟨rfl, rfl⟩
  | some ad =>
    go_enter Try.func27, Try.ntmps27
    go_wp2
    go_ret
    exact ⟨rfl, rfl⟩
end Go.Proofs.Ytfnpaacoijfbfaa.H
