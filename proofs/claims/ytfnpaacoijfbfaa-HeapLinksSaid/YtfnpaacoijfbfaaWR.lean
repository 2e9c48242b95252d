/- How nested data handed to a law is opened into plain Lean values: no program. -/
import Derived.Test.YtfnpaacoijfbfaaWMore
import Derived.Deep.Slices
import Derived.OpenShut
import Derived.SizedLaws
namespace Go.Proofs.YtfnpaacoijfbfaaW.PrintWords
open Go.RowKit Go.ChangeShapes Go.WideShapes Go.Deep
namespace Kd
/-- Whatever reads as data of type t is of kind d: its Lean value, within its bounds. -/
def Opn {α : Type} (P : Program) (t : TypeId) (d : Kd α) (Wf : α → Prop) : Prop :=
  ∀ {H : Type} (enc : TypeId × Value → H) (w : World) (base : Nat) (spare : Nat → Bool) (held : Bool) (fuel : Nat) (cs : List Value) (x : DataW H × List MemPlace), DataW.trod enc P w base spare held fuel t cs = some x → (∀ n ∈ x.1.weights P t, n ≤ reachBytes) → ∃ a : α, d.K w a cs ∧ Wf a
/-- The same of fields, one behind the other, from offset o on. -/
def OpnFs {α : Type} (P : Program) (o : Nat) (fs : List Field) (d : Kd α) (Wf : α → Prop) : Prop :=
  ∀ {H : Type} (enc : TypeId × Value → H) (w : World) (base : Nat) (spare : Nat → Bool) (held : Bool) (fuel : Nat) (cs : List Value) (xs : List (DataW H × List MemPlace)), cs.length = d.sz → xs.length = fs.length → (∀ (j : Nat) (f : Field), fs[j]? = some f → DataW.trod enc P w base spare held fuel f.type ((cs.drop (f.offset - o)).take (P.cellsOf f.type)) = xs[j]?) → (∀ n ∈ DataW.weightsEach P (fs.map (·.type)) (xs.map (·.1)), n ≤ reachBytes) → ∃ a : α, d.K w a cs ∧ Wf a
section
variable {P : Program} {α β : Type}
theorem weightsAll_mem {H : Type} {e : TypeId} {ds : List (DataW H)} {d : DataW H} (hd : d ∈ ds) {n : Nat} (hn : n ∈ d.weights P e) : n ∈ DataW.weightsAll P e ds := by
  induction ds with
  | nil => cases hd
  | cons x xs ih =>
    simp only [DataW.weightsAll, List.mem_append]
    rcases List.mem_cons.1 hd with rfl | h
    · exact .inl hn
    · exact .inr (ih h)
theorem Opn.int {t : TypeId} {k : IntKind} (ht : P.underlying t = some (.int k)) : Opn P t (Kd.int k) (fun x => (Lit.int k x).wf = true) := by
  intro H enc w base spare held fuel cs x h _
  obtain ⟨n, rfl, rfl, hw⟩ := DataW.trod_int ht h
  exact ⟨n, rfl, hw⟩
theorem Opn.bool {t : TypeId} (ht : P.underlying t = some .bool) : Opn P t Kd.bool (fun _ => True) := by
  intro H enc w base spare held fuel cs x h _
  obtain ⟨b, rfl, rfl⟩ := DataW.trod_bool ht h
  exact ⟨b, rfl, trivial⟩
theorem Opn.slice {t e : TypeId} {B : Nat} {d : Kd α} {Wf : α → Prop} (ht : P.underlying t = some (.slice e)) (hc : P.cellsOf e = d.sz) (hB : P.bytesOf e = B) (he : Opn P e d Wf) :
    Opn P t (Kd.slice e d) (fun xs => xs.length * B ≤ 140737488351232 ∧ ∀ x ∈ xs, Wf x) := by
  intro H enc w base spare held fuel cs x h hwt
  rcases open_slice ht h with ⟨rfl, rfl⟩ | ⟨a, len, cap, m, n, D, Pl, rfl, _, hl, hm, hmm, rfl, hi⟩
  · exact ⟨[], ⟨none, 0, rfl, Nat.le_refl _, C_nil d w⟩, by simp, by simp⟩
  · have hlm : len ≤ m := by rw [hmm]; split <;> omega
    have hw1 : len * B ≤ 140737488351232 := by
      have h1 : (((List.range len).map D).length + ((List.range (m - len)).map fun j => D (len + j)).length) * P.bytesOf e ≤ reachBytes := hwt _ (by simp [DataW.weights, ht])
      simp only [List.length_map, List.length_range, hB] at h1
      refine Nat.le_trans (Nat.mul_le_mul_right _ (by omega : len ≤ len + (m - len))) h1
    have key : ∀ q, q ≤ len → ∃ ys : List α, ys.length = q ∧ (∀ y ∈ ys, Wf y) ∧ ∀ j y, ys[j]? = some y → ∃ c : List Value, c.length = d.sz ∧ d.K w y c ∧ ∀ i u, c[i]? = some u → w.cell? (a.add (j * d.sz + i)) = some u := by
      intro q
      induction q with
      | zero => intro _; exact ⟨[], rfl, by simp, fun j y hj => by simp at hj⟩
      | succ q ih =>
        intro hq
        obtain ⟨ys, g1, g2, g3⟩ := ih (by omega)
        obtain ⟨cs', hcs, htr⟩ := hi q (by omega)
        have hwi : ∀ k ∈ (D q).weights P e, k ≤ reachBytes := by
          intro k hk
          refine hwt k ?_
          simp only [DataW.weights, ht, List.mem_cons, List.mem_append]
          exact .inr (.inl (weightsAll_mem (List.mem_map.2 ⟨q, List.mem_range.2 (by omega), rfl⟩) hk))
        obtain ⟨y, hK, hW⟩ := he enc w base spare held n cs' _ htr hwi
        obtain ⟨_, hcl, hat⟩ := World.cells?_some hcs
        refine ⟨ys ++ [y], by simp [g1], fun z hz => ?_, fun j z hj => ?_⟩
        · rcases List.mem_append.1 hz with hz | hz
          · exact g2 z hz
          · rw [List.mem_singleton.1 hz]; exact hW
        · rcases Nat.lt_or_ge j ys.length with hjl | hjl
          · rw [List.getElem?_append_left hjl] at hj
            exact g3 j z hj
          · have hjq : j = q := by
              have := (List.getElem?_eq_some_iff.1 hj).1
              rw [List.length_append, List.length_singleton] at this
              omega
            subst hjq
            have hz : y = z := by
              rw [List.getElem?_append_right hjl, g1, Nat.sub_self] at hj
              simpa using hj
            subst hz
            refine ⟨cs', d.K_len hK, hK, fun i u hu => ?_⟩
            have hlt : i < P.cellsOf e := by
              have := (List.getElem?_eq_some_iff.1 hu).1
              omega
            have h2 := hat i hlt
            rw [hu, Go.Deep.add_add, hc] at h2
            exact h2
    obtain ⟨ys, g1, g2, g3⟩ := key len (Nat.le_refl _)
    refine ⟨ys, ⟨some a, cap, by rw [g1], by omega, rfl, by have := hm; simp only [maxLen] at this; omega, fun _ => ⟨a, rfl, g3⟩⟩, by rw [g1]; exact hw1, g2⟩
theorem OpnFs.one {f : Field} {o : Nat} {d : Kd α} {Wf : α → Prop} (ho : f.offset = o) (hc : P.cellsOf f.type = d.sz) (h : Opn P f.type d Wf) : OpnFs P o [f] d Wf := by
  intro H enc w base spare held fuel cs xs hl hx ht hw
  match xs, hx with
  | [x], _ =>
    have h1 := ht 0 f rfl
    rw [ho, Nat.sub_self, List.drop_zero, hc, ← hl, List.take_length] at h1
    exact h enc w base spare held fuel cs x h1 (fun n hn => hw n (by simp [DataW.weightsEach, hn]))
theorem OpnFs.cons {f : Field} {fs : List Field} {o : Nat} {d1 : Kd α} {d2 : Kd β} {W1 : α → Prop} {W2 : β → Prop} (ho : f.offset = o) (hc : P.cellsOf f.type = d1.sz) (hle : ∀ g ∈ fs, o + d1.sz ≤ g.offset) (h1 : Opn P f.type d1 W1) (h2 : OpnFs P (o + d1.sz) fs d2 W2) : OpnFs P o (f :: fs) (Kd.pair d1 d2) (fun x => W1 x.1 ∧ W2 x.2) := by
  intro H enc w base spare held fuel cs xs hl hx ht hw
  match xs, hx with
  | x :: xs, hx =>
    have hlen : cs.length = d1.sz + d2.sz := hl
    have t1 := ht 0 f rfl
    rw [ho, Nat.sub_self, List.drop_zero, hc] at t1
    obtain ⟨a, k1, w1⟩ := h1 enc w base spare held fuel _ x t1 (fun n hn => hw n (by simp [DataW.weightsEach, hn]))
    obtain ⟨b, k2, w2⟩ := h2 enc w base spare held fuel (cs.drop d1.sz) xs (by rw [List.length_drop]; omega) (by simpa using hx) (fun j g hg => by
      have := ht (j + 1) g (by simpa using hg)
      have hge := hle g (List.mem_iff_getElem?.2 ⟨j, hg⟩)
      rw [List.drop_drop, show d1.sz + (g.offset - (o + d1.sz)) = g.offset - o by omega]
      simpa using this) (fun n hn => hw n (by simp only [List.map_cons, DataW.weightsEach, List.mem_append]; exact .inr hn))
    exact ⟨(a, b), ⟨cs.take d1.sz, cs.drop d1.sz, (List.take_append_drop _ _).symm, k1, k2⟩, w1, w2⟩
theorem Opn.struct {t : TypeId} {fs : Array Field} {d : Kd α} {Wf : α → Prop} (ht : P.underlying t = some (.struct fs)) (hc : P.cellsOf t = d.sz) (h : OpnFs P 0 fs.toList d Wf) : Opn P t d Wf := by
  intro H enc w base spare held fuel cs x hx hw
  obtain ⟨xs, n, _, rfl, hl, hlen, hf⟩ := DataW.trod_struct ht hx
  refine h enc w base spare held n cs xs (hl.trans hc) (by simpa using hlen) (fun j f hj => ?_) (fun k hk => hw k ?_)
  · rw [Nat.sub_zero]
    exact hf j f (by simpa using hj)
  · simpa [DataW.weights, ht] using hk
theorem Opn.iso {t : TypeId} {d : Kd α} {Wf : α → Prop} {f : β → α} (g : α → β) (hg : ∀ a, f (g a) = a) (h : Opn P t d Wf) : Opn P t (Kd.iso d f) (fun b => Wf (f b)) := by
  intro H enc w base spare held fuel cs x hx hw
  obtain ⟨a, k, wf⟩ := h enc w base spare held fuel cs x hx hw
  exact ⟨g a, by show d.K w (f (g a)) cs; rw [hg]; exact k, by show Wf (f (g a)); rw [hg]; exact wf⟩
theorem Opn.imp {t : TypeId} {d : Kd α} {Wf Wf' : α → Prop} (h : Opn P t d Wf) (hi : ∀ a, Wf a → Wf' a) : Opn P t d Wf' := by
  intro H enc w base spare held fuel cs x hx hw
  obtain ⟨a, k, wf⟩ := h enc w base spare held fuel cs x hx hw
  exact ⟨a, k, hi a wf⟩
/-- Arrays of two and of three. -/
theorem Opn.array2 {t e : TypeId} {d : Kd α} {Wf : α → Prop} (ht : P.underlying t = some (.array 2 e)) (hc : P.cellsOf e = d.sz) (hct : P.cellsOf t = d.sz + d.sz) (h : Opn P e d Wf) : Opn P t (Kd.pair d d) (fun x => Wf x.1 ∧ Wf x.2) := by
  intro H enc w base spare held fuel cs x hx hw
  obtain ⟨xs, m, _, rfl, hl, hlen, hf⟩ := DataW.trod_array ht hx
  match xs, hlen with
  | [x0, x1], _ =>
    have t0 := hf 0 (by omega)
    have t1 := hf 1 (by omega)
    rw [Nat.zero_mul, List.drop_zero, hc] at t0
    rw [Nat.one_mul, hc] at t1
    have hw' : ∀ n ∈ DataW.weightsAll P e [x0.1, x1.1], n ≤ reachBytes := fun n hn => hw n (by simpa [DataW.weights, ht] using hn)
    obtain ⟨a, k1, w1⟩ := h enc w base spare held m _ x0 t0 (fun n hn => hw' n (weightsAll_mem (by simp) hn))
    obtain ⟨b, k2, w2⟩ := h enc w base spare held m _ x1 t1 (fun n hn => hw' n (weightsAll_mem (d := x1.1) (by simp) hn))
    rw [List.take_of_length_le (by rw [List.length_drop]; omega)] at k2
    exact ⟨(a, b), ⟨cs.take d.sz, cs.drop d.sz, (List.take_append_drop _ _).symm, k1, k2⟩, w1, w2⟩
theorem Opn.array3 {t e : TypeId} {d : Kd α} {Wf : α → Prop} (ht : P.underlying t = some (.array 3 e)) (hc : P.cellsOf e = d.sz) (hct : P.cellsOf t = d.sz + (d.sz + d.sz)) (h : Opn P e d Wf) : Opn P t (Kd.pair d (Kd.pair d d)) (fun x => Wf x.1 ∧ Wf x.2.1 ∧ Wf x.2.2) := by
  intro H enc w base spare held fuel cs x hx hw
  obtain ⟨xs, m, _, rfl, hl, hlen, hf⟩ := DataW.trod_array ht hx
  match xs, hlen with
  | [x0, x1, x2], _ =>
    have t0 := hf 0 (by omega)
    have t1 := hf 1 (by omega)
    have t2 := hf 2 (by omega)
    rw [Nat.zero_mul, List.drop_zero, hc] at t0
    rw [Nat.one_mul, hc] at t1
    rw [hc, Nat.two_mul, ← List.drop_drop] at t2
    have hw' : ∀ n ∈ DataW.weightsAll P e [x0.1, x1.1, x2.1], n ≤ reachBytes := fun n hn => hw n (by simpa [DataW.weights, ht] using hn)
    obtain ⟨a, k1, w1⟩ := h enc w base spare held m _ x0 t0 (fun n hn => hw' n (weightsAll_mem (by simp) hn))
    obtain ⟨b, k2, w2⟩ := h enc w base spare held m _ x1 t1 (fun n hn => hw' n (weightsAll_mem (d := x1.1) (by simp) hn))
    obtain ⟨c, k3, w3⟩ := h enc w base spare held m _ x2 t2 (fun n hn => hw' n (weightsAll_mem (d := x2.1) (by simp) hn))
    rw [List.take_of_length_le (by rw [List.length_drop, List.length_drop]; omega)] at k3
    exact ⟨(a, b, c), ⟨cs.take d.sz, cs.drop d.sz, (List.take_append_drop _ _).symm, k1, (cs.drop d.sz).take d.sz, (cs.drop d.sz).drop d.sz, (List.take_append_drop _ _).symm, k2, k3⟩, w1, w2, w3⟩
/-- An argument of a law. -/
theorem Opn.arg {H : Type} {enc : TypeId × Value → H} {w : World} {base : Nat} {spare : Nat → Bool} {held : Bool} {t : TypeId} {d : Kd α} {Wf : α → Prop} {ts : List TypeId} {ds : List (DataW H)} {dd : DataW H} {v : Value} {ps : List MemPlace} {j : Nat} (h : Opn P t d Wf)
    (hsz : (DataW.weightsEach P ts ds).all (· ≤ reachBytes) = true) (hj : ts[j]? = some t) (hd : ds[j]? = some dd) (ht : DataW.Trod enc P w base spare held t v dd ps) : ∃ a : α, d.K w a v.cells.toList ∧ Wf a := by
  obtain ⟨fuel, hf⟩ := ht
  exact h enc w base spare held fuel _ _ hf (fun n hn => by
    have := List.all_eq_true.1 hsz _ (DataW.weights_mem_each hj hd n hn)
    simpa using this)
end
end Kd
end Go.Proofs.YtfnpaacoijfbfaaW.PrintWords
