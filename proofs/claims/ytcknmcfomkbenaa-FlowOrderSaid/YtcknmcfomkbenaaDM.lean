/- Plain lemmas on the tree of what dominates, as it is grown round by round: no program. -/
import Derived.Test.YtcknmcfomkbenaaDF
namespace Go.Proofs.Ytcknmcfomkbenaa.D
open Go.RowKit Go.Proofs.YtcknmcfomkbenaaW.PrintWords Go.Proofs.YtcknmcfomkbenaaW.PrintLast Go.Proofs.YtcknmcfomkbenaaW.PrintMore
theorem rd_set {ab : List Int} {b y v : Int} (b0 : 0 ≤ b) (b1 : b < (ab.length : Int)) (y0 : 0 ≤ y) : rd (ab.set b.toNat v) y = if y = b then v else rd ab y := by
  unfold rd
  rw [List.getD_eq_getElem?_getD, List.getD_eq_getElem?_getD]
  by_cases h : y = b
  · subst h
    rw [if_pos rfl, List.getElem?_set_self (by omega)]
    rfl
  · rw [if_neg h, List.getElem?_set_ne (by omega)]
structure Ok (nx : Int → List Int) (n : Nat) (order pl : List Int) : Prop where
  hd : order[0]? = some 0
  rng : ∀ b ∈ order, 0 ≤ b ∧ b < (n : Int)
  tgt : ∀ a ∈ order, ∀ b ∈ nx a, 0 < b ∧ b ∈ order
  ple : ∀ (i : Nat) (b : Int), order[i]? = some b → rd pl b = i
  pln : ∀ b, 0 ≤ b → b < (n : Int) → b ∉ order → rd pl b < 0
  par : ∀ b ∈ order, b ≠ 0 → ∃ a ∈ order, b ∈ nx a ∧ rd pl a < rd pl b
section
variable {nx : Int → List Int} {n : Nat} {order pl : List Int}
theorem Ok.z (h : Ok nx n order pl) : (0 : Int) ∈ order := List.mem_of_getElem? h.hd
theorem Ok.inj (h : Ok nx n order pl) {a b : Int} (ha : a ∈ order) (hb : b ∈ order) (e : rd pl a = rd pl b) : a = b := by
  obtain ⟨i, hi⟩ := List.mem_iff_getElem?.1 ha
  obtain ⟨j, hj⟩ := List.mem_iff_getElem?.1 hb
  rw [h.ple i a hi, h.ple j b hj] at e
  obtain rfl : i = j := by omega
  rw [hi] at hj
  exact Option.some.inj hj
inductive Up (ab : List Int) : Int → Int → Prop
  | refl (y : Int) : Up ab y y
  | up {y x : Int} : 0 ≤ rd ab y → Up ab (rd ab y) x → Up ab y x
theorem Up.trans {ab : List Int} {y x z : Int} (h : Up ab y x) (k : Up ab x z) : Up ab y z := by
  induction h with
  | refl => exact k
  | up h0 _ ih => exact .up h0 (ih k)
def Done (ab : List Int) (y : Int) : Prop := y = 0 ∨ 0 ≤ rd ab y
inductive Av (nx : Int → List Int) (x : Int) : Int → Prop
  | zero : x ≠ 0 → Av nx x 0
  | step {a c : Int} : Av nx x a → c ∈ nx a → c ≠ x → Av nx x c
theorem Av.ne {x y : Int} (h : Av nx x y) : y ≠ x := by
  cases h with
  | zero h => exact fun e => h e.symm
  | step _ _ h => exact h
theorem Av.inn (o : Ok nx n order pl) {x y : Int} (h : Av nx x y) : y ∈ order := by
  induction h with
  | zero => exact o.z
  | step _ hc _ ih => exact (o.tgt _ ih _ hc).2
inductive T (p : Int → Int) : Int → Int → Prop
  | refl (y : Int) : T p y y
  | up {y x : Int} : y ≠ 0 → T p (p y) x → T p y x
theorem T.trans {p : Int → Int} {y x z : Int} (h : T p y x) (k : T p x z) : T p y z := by
  induction h with
  | refl => exact k
  | up h0 _ ih => exact .up h0 (ih k)
def IsPar (nx : Int → List Int) (order pl : List Int) (p : Int → Int) : Prop := ∀ b ∈ order, b ≠ 0 → p b ∈ order ∧ b ∈ nx (p b) ∧ rd pl (p b) < rd pl b
theorem T.inn {p : Int → Int} (hp : IsPar nx order pl p) {y x : Int} (h : T p y x) : y ∈ order → x ∈ order ∧ rd pl x ≤ rd pl y := by
  induction h with
  | refl => exact fun h => ⟨h, Int.le_refl _⟩
  | up h0 _ ih =>
    intro hy
    have := hp _ hy h0
    have h2 := ih this.1
    exact ⟨h2.1, by omega⟩
theorem Av.on {p : Int → Int} (hp : IsPar nx order pl p) {x y b : Int} (h : T p y b) (hy : y ∈ order) (ha : Av nx x b) (hlt : rd pl x < rd pl b) : Av nx x y := by
  induction h with
  | refl => exact ha
  | up h0 h1 ih =>
    have h2 := hp _ hy h0
    have h3 := ih h2.1 ha hlt
    refine .step h3 h2.2.1 (fun e => ?_)
    have := (h1.inn hp h2.1).2
    have h4 := h2.2.2
    subst e
    omega
structure Inv (nx : Int → List Int) (n : Nat) (order pl : List Int) (p : Int → Int) (ab : List Int) : Prop where
  len : ab.length = n
  zero : rd ab 0 < 0
  out : ∀ y, 0 ≤ y → y < (n : Int) → y ∉ order → rd ab y = -1
  inn : ∀ y ∈ order, 0 ≤ rd ab y → rd ab y ∈ order ∧ rd pl (rd ab y) < rd pl y ∧ Done ab (rd ab y)
  tree : ∀ y ∈ order, 0 ≤ rd ab y → T p y (rd ab y)
  snd : ∀ y ∈ order, Done ab y → ∀ x ∈ order, ¬ Av nx x y → Up ab y x
section
variable {p : Int → Int} {ab : List Int} (o : Ok nx n order pl) (hp : IsPar nx order pl p) (I : Inv nx n order pl p ab)
include I
theorem Up.inn {y x : Int} (h : Up ab y x) : y ∈ order → x ∈ order ∧ rd pl x ≤ rd pl y ∧ (Done ab y → Done ab x) ∧ T p y x := by
  induction h with
  | refl => exact fun h => ⟨h, Int.le_refl _, id, .refl _⟩
  | up h0 _ ih =>
    intro hy
    have h1 := I.inn _ hy h0
    have h2 := ih h1.1
    exact ⟨h2.1, by omega, fun _ => h2.2.2.1 h1.2.2, (I.tree _ hy h0).trans h2.2.2.2⟩
include o
end
def IsWay (nx : Int → List Int) : List Int → Prop
  | [] => False
  | [a] => a = 0
  | c :: a :: w => c ∈ nx a ∧ IsWay nx (a :: w)
theorem IsWay.inn (o : Ok nx n order pl) : ∀ {w : List Int}, IsWay nx w → ∀ a ∈ w, a ∈ order
  | [], h, _, _ => h.elim
  | [c], h, a, ha => by
    rw [List.mem_singleton.1 ha]
    have : c = 0 := h
    rw [this]
    exact o.z
  | c :: d :: w, h, a, ha => by
    have h2 := IsWay.inn o h.2
    rcases List.mem_cons.1 ha with rfl | ha
    · exact (o.tgt d (h2 d (by simp)) a h.1).2
    · exact h2 a ha
theorem IsWay.tail : ∀ {u w : List Int} {a : Int}, IsWay nx (u ++ a :: w) → IsWay nx (a :: w)
  | [], _, _, h => h
  | [c], _, _, h => h.2
  | c :: d :: u, w, a, h => IsWay.tail (u := d :: u) h.2
def QI (nx : Int → List Int) (i : Nat) (ab : List Int) : Prop := ∀ (y a : Int) (w : List Int), IsWay nx (y :: a :: w) → w.length < i → rd ab y ∈ a :: w
theorem QI.up {i : Nat} {p : Int → Int} {ab : List Int} (I : Inv nx n order pl p ab) (q : QI nx i ab) {a z : Int} (h : Up ab a z) : ∀ w : List Int, IsWay nx (a :: w) → w.length ≤ i → z ∈ a :: w := by
  induction h with
  | refl => intro w _ _; simp
  | @up y x h0 _ ih =>
    intro w hw hl
    match w, hw, hl with
    | [], hw, _ =>
      have e : y = 0 := hw
      subst e
      have := I.zero
      omega
    | a :: w, hw, hl =>
      have hm := q y a w hw (by simp only [List.length_cons] at hl; omega)
      obtain ⟨u, v, e⟩ := List.append_of_mem hm
      have hw2 : IsWay nx (rd ab y :: v) := IsWay.tail (u := u) (by rw [← e]; exact hw.2)
      have hlen : v.length ≤ i := by
        have := congrArg List.length e
        simp only [List.length_cons, List.length_append] at this hl
        omega
      have := ih v hw2 hlen
      exact List.mem_cons_of_mem _ (by rw [e]; exact List.mem_append.2 (.inr this))
theorem QI.mono {i j : Nat} {ab : List Int} (q : QI nx i ab) (h : j ≤ i) : QI nx j ab := fun y a w hw hl => q y a w hw (by omega)
end
end Go.Proofs.Ytcknmcfomkbenaa.D
