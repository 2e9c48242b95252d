/- Plain lemmas on the tree of what dominates, as it is grown round by round: no program. -/
import Derived.Test.YtcknmcfomkbenaaDF
namespace Go.Proofs.Ytcknmcfomkbenaa.D
open Go.RowKit Go.Proofs.YtcknmcfomkbenaaW.PrintWords Go.Proofs.YtcknmcfomkbenaaW.PrintLast Go.Proofs.YtcknmcfomkbenaaW.PrintMore
theorem rd_set {ab : List Int} {b y v : Int} (b0 : 0 ≤ b) (b1 : b < (ab.length : Int)) (y0 : 0 ≤ y) : rd (ab.set b.toNat v) y = if y = b then v else rd ab y := by
  unfold rd
  rw [List.getD_eq_getElem?_getD, List.getD_eq_getElem?_getD]
  by_cases h : y = b
  · subst h
    rw [if_pos rfl, List.getElem?_set_self (by omega)]
    rfl
  · rw [if_neg h, List.getElem?_set_ne (by omega)]
theorem set_same {ab : List Int} {b : Int} (b0 : 0 ≤ b) (b1 : b < (ab.length : Int)) : ab.set b.toNat (rd ab b) = ab := by
  unfold rd
  rw [List.getD_eq_getElem?_getD, List.getElem?_eq_getElem (by omega)]
  simp
def meetF (n : Nat) (ab pl : List Int) : Nat → Int → Int → Option Int
  | 0, _, _ => none
  | k + 1, a, b => if a = b then some a else if 0 ≤ a ∧ a < (n : Int) ∧ 0 ≤ b ∧ b < (n : Int) then (if rd pl a > rd pl b then meetF n ab pl k (rd ab a) b else meetF n ab pl k a (rd ab b)) else none
def nextOf (n : Nat) (ab pl : List Int) (kf : Nat) : Int → List Int → Option Int
  | v, [] => some v
  | v, a :: ps => if 0 ≤ a ∧ a < (n : Int) then (if rd pl a < 0 then nextOf n ab pl kf v ps else if a ≠ 0 ∧ rd ab a < 0 then nextOf n ab pl kf v ps else if v < 0 then nextOf n ab pl kf a ps else (meetF n ab pl kf v a).bind fun m => nextOf n ab pl kf m ps) else none
def passF (n : Nat) (pl : List Int) (kf : Nat) (prev : Int → List Int) : List Int → Bool → List Int → Option (List Int × Bool)
  | ab, ch, [] => some (ab, ch)
  | ab, ch, b :: r => if 0 ≤ b ∧ b < (n : Int) then ((nextOf n ab pl kf (-1) (prev b)).bind fun v => passF n pl kf prev (ab.set b.toNat v) (ch || v != rd ab b) r) else none
def loopF (n : Nat) (pl : List Int) (kf : Nat) (prev : Int → List Int) (r : List Int) : Nat → List Int → Option (List Int)
  | 0, _ => none
  | k + 1, ab => (passF n pl kf prev ab false r).bind fun s => if s.2 = true then loopF n pl kf prev r k s.1 else some s.1
structure Ok (nx : Int → List Int) (n : Nat) (order pl : List Int) : Prop where
  hd : order[0]? = some 0
  rng : ∀ b ∈ order, 0 ≤ b ∧ b < (n : Int)
  tgt : ∀ a ∈ order, ∀ b ∈ nx a, 0 < b ∧ b ∈ order
  ple : ∀ (i : Nat) (b : Int), order[i]? = some b → rd pl b = i
  pln : ∀ b, 0 ≤ b → b < (n : Int) → b ∉ order → rd pl b < 0
  par : ∀ b ∈ order, b ≠ 0 → ∃ a ∈ order, b ∈ nx a ∧ rd pl a < rd pl b
section
variable {nx : Int → List Int} {n : Nat} {order pl : List Int}
theorem Ok.z (h : Ok nx n order pl) : (0 : Int) ∈ order := List.mem_of_getElem? h.hd
theorem Ok.plz (h : Ok nx n order pl) : rd pl 0 = 0 := by simpa using h.ple 0 0 h.hd
theorem Ok.pl0 (h : Ok nx n order pl) {b : Int} (hb : b ∈ order) : 0 ≤ rd pl b := by
  obtain ⟨i, hi⟩ := List.mem_iff_getElem?.1 hb
  rw [h.ple i b hi]
  omega
theorem Ok.pln1 (h : Ok nx n order pl) {b : Int} (hb : b ∈ order) : rd pl b < (order.length : Int) := by
  obtain ⟨i, hi⟩ := List.mem_iff_getElem?.1 hb
  rw [h.ple i b hi]
  have := (List.getElem?_eq_some_iff.1 hi).1
  omega
theorem Ok.inj (h : Ok nx n order pl) {a b : Int} (ha : a ∈ order) (hb : b ∈ order) (e : rd pl a = rd pl b) : a = b := by
  obtain ⟨i, hi⟩ := List.mem_iff_getElem?.1 ha
  obtain ⟨j, hj⟩ := List.mem_iff_getElem?.1 hb
  rw [h.ple i a hi, h.ple j b hj] at e
  obtain rfl : i = j := by omega
  rw [hi] at hj
  exact Option.some.inj hj
inductive Up (ab : List Int) : Int → Int → Prop
  | refl (y : Int) : Up ab y y
  | up {y x : Int} : 0 ≤ rd ab y → Up ab (rd ab y) x → Up ab y x
theorem Up.trans {ab : List Int} {y x z : Int} (h : Up ab y x) (k : Up ab x z) : Up ab y z := by
  induction h with
  | refl => exact k
  | up h0 _ ih => exact .up h0 (ih k)
theorem Up.lin {ab : List Int} {y x z : Int} (h : Up ab y x) (k : Up ab y z) : Up ab x z ∨ Up ab z x := by
  induction h with
  | refl => exact .inl k
  | up h0 h1 ih =>
    cases k with
    | refl => exact .inr (.up h0 h1)
    | up _ k1 => exact ih k1
def Done (ab : List Int) (y : Int) : Prop := y = 0 ∨ 0 ≤ rd ab y
inductive Av (nx : Int → List Int) (x : Int) : Int → Prop
  | zero : x ≠ 0 → Av nx x 0
  | step {a c : Int} : Av nx x a → c ∈ nx a → c ≠ x → Av nx x c
theorem Av.ne {x y : Int} (h : Av nx x y) : y ≠ x := by
  cases h with
  | zero h => exact fun e => h e.symm
  | step _ _ h => exact h
theorem Av.inn (o : Ok nx n order pl) {x y : Int} (h : Av nx x y) : y ∈ order := by
  induction h with
  | zero => exact o.z
  | step _ hc _ ih => exact (o.tgt _ ih _ hc).2
inductive T (p : Int → Int) : Int → Int → Prop
  | refl (y : Int) : T p y y
  | up {y x : Int} : y ≠ 0 → T p (p y) x → T p y x
theorem T.trans {p : Int → Int} {y x z : Int} (h : T p y x) (k : T p x z) : T p y z := by
  induction h with
  | refl => exact k
  | up h0 _ ih => exact .up h0 (ih k)
def IsPar (nx : Int → List Int) (order pl : List Int) (p : Int → Int) : Prop := ∀ b ∈ order, b ≠ 0 → p b ∈ order ∧ b ∈ nx (p b) ∧ rd pl (p b) < rd pl b
theorem Ok.isPar (h : Ok nx n order pl) : ∃ p, IsPar nx order pl p := by
  classical
  refine ⟨fun b => if hb : b ∈ order ∧ b ≠ 0 then Classical.choose (h.par b hb.1 hb.2) else 0, fun b h1 h2 => ?_⟩
  simp only [dif_pos (show b ∈ order ∧ b ≠ 0 from ⟨h1, h2⟩)]
  exact Classical.choose_spec (h.par b h1 h2)
theorem T.inn {p : Int → Int} (hp : IsPar nx order pl p) {y x : Int} (h : T p y x) : y ∈ order → x ∈ order ∧ rd pl x ≤ rd pl y := by
  induction h with
  | refl => exact fun h => ⟨h, Int.le_refl _⟩
  | up h0 _ ih =>
    intro hy
    have := hp _ hy h0
    have h2 := ih this.1
    exact ⟨h2.1, by omega⟩
theorem Av.on {p : Int → Int} (hp : IsPar nx order pl p) {x y b : Int} (h : T p y b) (hy : y ∈ order) (ha : Av nx x b) (hlt : rd pl x < rd pl b) : Av nx x y := by
  induction h with
  | refl => exact ha
  | up h0 h1 ih =>
    have h2 := hp _ hy h0
    have h3 := ih h2.1 ha hlt
    refine .step h3 h2.2.1 (fun e => ?_)
    have := (h1.inn hp h2.1).2
    have h4 := h2.2.2
    subst e
    omega
structure Inv (nx : Int → List Int) (n : Nat) (order pl : List Int) (p : Int → Int) (ab : List Int) : Prop where
  len : ab.length = n
  zero : rd ab 0 < 0
  out : ∀ y, 0 ≤ y → y < (n : Int) → y ∉ order → rd ab y = -1
  inn : ∀ y ∈ order, 0 ≤ rd ab y → rd ab y ∈ order ∧ rd pl (rd ab y) < rd pl y ∧ Done ab (rd ab y)
  tree : ∀ y ∈ order, 0 ≤ rd ab y → T p y (rd ab y)
  snd : ∀ y ∈ order, Done ab y → ∀ x ∈ order, ¬ Av nx x y → Up ab y x
section
variable {p : Int → Int} {ab : List Int} (o : Ok nx n order pl) (hp : IsPar nx order pl p) (I : Inv nx n order pl p ab)
include I
theorem Up.inn {y x : Int} (h : Up ab y x) : y ∈ order → x ∈ order ∧ rd pl x ≤ rd pl y ∧ (Done ab y → Done ab x) ∧ T p y x := by
  induction h with
  | refl => exact fun h => ⟨h, Int.le_refl _, id, .refl _⟩
  | up h0 _ ih =>
    intro hy
    have h1 := I.inn _ hy h0
    have h2 := ih h1.1
    exact ⟨h2.1, by omega, fun _ => h2.2.2.1 h1.2.2, (I.tree _ hy h0).trans h2.2.2.2⟩
include o
theorem up_ne {y x : Int} (h : Up ab y x) (hy : y ∈ order) (hne : y ≠ x) : rd pl x < rd pl y := by
  have h1 := h.inn I hy
  rcases Int.lt_or_eq_of_le h1.2.1 with h2 | h2
  · exact h2
  · exact absurd (o.inj h1.1 hy h2).symm hne
theorem meet_ok : ∀ (k : Nat) (a b : Int), a ∈ order → b ∈ order → Done ab a → Done ab b → rd pl a + rd pl b < (k : Int) → ∃ m, meetF n ab pl k a b = some m ∧ m ∈ order ∧ Done ab m ∧ ∀ x, Up ab m x ↔ Up ab a x ∧ Up ab b x
  | 0, a, b, ha, hb, _, _, h => by have := o.pl0 ha; have := o.pl0 hb; omega
  | k + 1, a, b, ha, hb, da, db, h => by
    unfold meetF
    by_cases e : a = b
    · subst e
      rw [if_pos rfl]
      exact ⟨a, rfl, ha, da, fun x => ⟨fun h => ⟨h, h⟩, fun h => h.1⟩⟩
    rw [if_neg e, if_pos ⟨(o.rng a ha).1, (o.rng a ha).2, (o.rng b hb).1, (o.rng b hb).2⟩]
    have a0 := o.pl0 ha
    have b0 := o.pl0 hb
    have key : ∀ {a b : Int}, a ∈ order → b ∈ order → Done ab a → rd pl b < rd pl a → 0 ≤ rd ab a ∧ ∀ x, Up ab (rd ab a) x ∧ Up ab b x ↔ Up ab a x ∧ Up ab b x := by
      intro a b ha hb da hlt
      have hz : 0 ≤ rd ab a := by
        rcases da with rfl | h0
        · have := o.plz; have := o.pl0 hb; omega
        · exact h0
      refine ⟨hz, fun x => ⟨fun h => ⟨.up hz h.1, h.2⟩, fun h => ⟨?_, h.2⟩⟩⟩
      cases h.1 with
      | refl => have := (h.2.inn I hb).2.1; omega
      | up _ h1 => exact h1
    by_cases hgt : rd pl a > rd pl b
    · rw [if_pos hgt]
      obtain ⟨hz, hk⟩ := key ha hb da hgt
      have h1 := I.inn a ha hz
      obtain ⟨m, e1, e2, e3, e4⟩ := meet_ok k (rd ab a) b h1.1 hb h1.2.2 db (by omega)
      exact ⟨m, e1, e2, e3, fun x => (e4 x).trans (hk x)⟩
    · rw [if_neg hgt]
      have hlt : rd pl a < rd pl b := by
        rcases Int.lt_or_eq_of_le (Int.not_lt.1 hgt) with h1 | h1
        · exact h1
        · exact absurd (o.inj ha hb h1) e
      obtain ⟨hz, hk⟩ := key hb ha db hlt
      have h1 := I.inn b hb hz
      obtain ⟨m, e1, e2, e3, e4⟩ := meet_ok k a (rd ab b) ha h1.1 da h1.2.2 (by omega)
      exact ⟨m, e1, e2, e3, fun x => (e4 x).trans (by rw [And.comm]; exact (hk x).trans And.comm)⟩
theorem next_ok {kf : Nat} (hkf : 2 * order.length ≤ kf) : ∀ (ps : List Int) (v : Int), (∀ a ∈ ps, 0 ≤ a ∧ a < (n : Int)) → (v = -1 ∨ (v ∈ order ∧ Done ab v)) → ∃ r, nextOf n ab pl kf v ps = some r ∧
    ((r = -1 ∧ v = -1 ∧ ∀ a ∈ ps, a ∈ order → ¬ Done ab a) ∨ (r ∈ order ∧ Done ab r ∧ ∀ x, Up ab r x ↔ ((v ∈ order → Up ab v x) ∧ ∀ a ∈ ps, a ∈ order → Done ab a → Up ab a x)))
  | [], v, _, hv => by
    refine ⟨v, rfl, ?_⟩
    rcases hv with rfl | ⟨h1, h2⟩
    · exact .inl ⟨rfl, rfl, by simp⟩
    · exact .inr ⟨h1, h2, fun x => ⟨fun h => ⟨fun _ => h, by simp⟩, fun h => h.1 h1⟩⟩
  | a :: ps, v, hps, hv => by
    have ha := hps a (by simp)
    have hps' : ∀ a ∈ ps, 0 ≤ a ∧ a < (n : Int) := fun c hc => hps c (by simp [hc])
    unfold nextOf
    rw [if_pos ⟨ha.1, ha.2⟩]
    have skip : (a ∈ order → ¬ Done ab a) → (∃ r, nextOf n ab pl kf v ps = some r ∧
        ((r = -1 ∧ v = -1 ∧ ∀ c ∈ a :: ps, c ∈ order → ¬ Done ab c) ∨ (r ∈ order ∧ Done ab r ∧ ∀ x, Up ab r x ↔ ((v ∈ order → Up ab v x) ∧ ∀ c ∈ a :: ps, c ∈ order → Done ab c → Up ab c x)))) := by
      intro hno
      obtain ⟨r, e, h⟩ := next_ok hkf ps v hps' hv
      refine ⟨r, e, ?_⟩
      rcases h with ⟨h1, h2, h3⟩ | ⟨h1, h2, h3⟩
      · refine .inl ⟨h1, h2, fun c hc => ?_⟩
        rcases List.mem_cons.1 hc with rfl | hc
        · exact hno
        · exact h3 c hc
      · refine .inr ⟨h1, h2, fun x => (h3 x).trans ⟨fun h => ⟨h.1, fun c hc hi hd => ?_⟩, fun h => ⟨h.1, fun c hc => h.2 c (by simp [hc])⟩⟩⟩
        rcases List.mem_cons.1 hc with rfl | hc
        · exact absurd hd (hno hi)
        · exact h.2 c hc hi hd
    by_cases h1 : rd pl a < 0
    · rw [if_pos h1]
      exact skip (fun hi => by have := o.pl0 hi; omega)
    rw [if_neg h1]
    have hi : a ∈ order := by
      apply Classical.byContradiction
      intro hno
      exact h1 (o.pln a ha.1 ha.2 hno)
    by_cases h2 : a ≠ 0 ∧ rd ab a < 0
    · rw [if_pos h2]
      exact skip (fun _ hd => by rcases hd with hd | hd; exact h2.1 hd; omega)
    rw [if_neg h2]
    have hd : Done ab a := by
      by_cases h3 : a = 0
      · exact .inl h3
      · right
        have : ¬ rd ab a < 0 := fun h4 => h2 ⟨h3, h4⟩
        omega
    have fin : ∀ m, m ∈ order → Done ab m → (∀ x, Up ab m x ↔ (v ∈ order → Up ab v x) ∧ Up ab a x) → (∃ r, nextOf n ab pl kf m ps = some r ∧
        ((r = -1 ∧ v = -1 ∧ ∀ c ∈ a :: ps, c ∈ order → ¬ Done ab c) ∨ (r ∈ order ∧ Done ab r ∧ ∀ x, Up ab r x ↔ ((v ∈ order → Up ab v x) ∧ ∀ c ∈ a :: ps, c ∈ order → Done ab c → Up ab c x)))) := by
      intro m hm hdm hx
      obtain ⟨r, e, h⟩ := next_ok hkf ps m hps' (.inr ⟨hm, hdm⟩)
      refine ⟨r, e, .inr ?_⟩
      rcases h with ⟨_, h5, _⟩ | ⟨h5, h6, h7⟩
      · have := (o.rng m hm).1; omega
      · refine ⟨h5, h6, fun x => (h7 x).trans ⟨fun h => ⟨((hx x).1 (h.1 hm)).1, fun c hc hci hcd => ?_⟩, fun h => ⟨fun _ => (hx x).2 ⟨h.1, h.2 a (by simp) hi hd⟩, fun c hc => h.2 c (by simp [hc])⟩⟩⟩
        rcases List.mem_cons.1 hc with rfl | hc
        · exact ((hx x).1 (h.1 hm)).2
        · exact h.2 c hc hci hcd
    by_cases h3 : v < 0
    · rw [if_pos h3]
      exact fin a hi hd (fun x => ⟨fun h => ⟨fun hv => by have := (o.rng v hv).1; omega, h⟩, fun h => h.2⟩)
    · rw [if_neg h3]
      rcases hv with rfl | ⟨h4, h5⟩
      · omega
      · obtain ⟨m, e1, e2, e3, e4⟩ := meet_ok o I kf v a h4 hi h5 hd (by have := o.pln1 h4; have := o.pln1 hi; omega)
        rw [e1]
        simp only [Option.bind_some]
        exact fin m e2 e3 (fun x => (e4 x).trans ⟨fun h => ⟨fun _ => h.1, h.2⟩, fun h => ⟨h.1 h4, h.2⟩⟩)
theorem step_ok {kf : Nat} (hp : IsPar nx order pl p) (hkf : 2 * order.length ≤ kf) {prev : Int → List Int} (hprev : ∀ b a, a ∈ prev b ↔ 0 ≤ a ∧ a < (n : Int) ∧ b ∈ nx a) {b : Int} (hb : b ∈ order) (hb0 : b ≠ 0) (hd : Done ab (p b)) :
    ∃ v, nextOf n ab pl kf (-1) (prev b) = some v ∧ v ∈ order ∧ Inv nx n order pl p (ab.set b.toNat v) ∧ (∀ a ∈ order, b ∈ nx a → Done ab a → Up ab a v) := by
  obtain ⟨v, e, h⟩ := next_ok o I hkf (prev b) (-1) (fun a ha => by have := (hprev b a).1 ha; exact ⟨this.1, this.2.1⟩) (.inl rfl)
  obtain ⟨p1, p2, p3⟩ := hp b hb hb0
  have hpm : p b ∈ prev b := (hprev b _).2 ⟨(o.rng _ p1).1, (o.rng _ p1).2, p2⟩
  rcases h with ⟨_, _, h3⟩ | ⟨h1, h2, h3⟩
  · exact absurd hd (h3 _ hpm p1)
  have hup : ∀ a ∈ order, b ∈ nx a → Done ab a → Up ab a v := fun a ha hba hda => ((h3 v).1 (.refl _)).2 a ((hprev b a).2 ⟨(o.rng a ha).1, (o.rng a ha).2, hba⟩) ha hda
  refine ⟨v, e, h1, ?_, hup⟩
  have hv := (hup _ p1 p2 hd).inn I p1
  have v0 := o.rng v h1
  have b0 := o.rng b hb
  have hrd : ∀ y, 0 ≤ y → rd (ab.set b.toNat v) y = if y = b then v else rd ab y := fun y hy => rd_set b0.1 (by rw [I.len]; exact b0.2) hy
  have hdone : ∀ y ∈ order, Done ab y → Done (ab.set b.toNat v) y := by
    intro y hy h
    by_cases h4 : y = 0
    · exact .inl h4
    · right
      rw [hrd y (o.rng y hy).1]
      split
      · exact v0.1
      · rcases h with h | h
        · exact absurd h h4
        · exact h
  have hnv : ¬ Up ab v b := fun h => by have := (h.inn I h1).2.1; omega
  have L1 : ∀ {y x : Int}, Up ab y x → y ∈ order → ¬ Up ab y b → Up (ab.set b.toNat v) y x := by
    intro y x h
    induction h with
    | refl => exact fun _ _ => .refl _
    | @up y x h0 h1 ih =>
      intro hy hn
      have hyb : y ≠ b := fun e => hn (e ▸ .refl _)
      have e2 : rd (ab.set b.toNat v) y = rd ab y := by rw [hrd y (o.rng y hy).1, if_neg hyb]
      refine .up (by rw [e2]; exact h0) ?_
      rw [e2]
      exact ih (I.inn y hy h0).1 (fun h => hn (.up h0 h))
  have L2 : ∀ {y x : Int}, Up ab y x → y ∈ order → Up ab x b → Up (ab.set b.toNat v) y x := by
    intro y x h
    induction h with
    | refl => exact fun _ _ => .refl _
    | @up y x h0 h1 ih =>
      intro hy hxb
      have h5 := I.inn y hy h0
      have hyb : y ≠ b := by
        intro e
        subst e
        have h6 := (h1.inn I h5.1)
        have := (hxb.inn I h6.1).2.1
        omega
      have e2 : rd (ab.set b.toNat v) y = rd ab y := by rw [hrd y (o.rng y hy).1, if_neg hyb]
      refine .up (by rw [e2]; exact h0) ?_
      rw [e2]
      exact ih h5.1 hxb
  have hbv : ∀ x, Up ab v x → Up (ab.set b.toNat v) b x := by
    intro x h
    have e2 : rd (ab.set b.toNat v) b = v := by rw [hrd b b0.1, if_pos rfl]
    refine .up (by rw [e2]; exact v0.1) ?_
    rw [e2]
    exact L1 h h1 hnv
  refine ⟨by rw [List.length_set]; exact I.len, ?_, fun y y0 y1 hy => ?_, fun y hy h0 => ?_, fun y hy h0 => ?_, fun y hy hdy x hx hav => ?_⟩
  · rw [hrd 0 (by omega), if_neg (fun e => hb0 e.symm)]
    exact I.zero
  · rw [hrd y y0, if_neg (fun e => hy (by rw [e]; exact hb))]
    exact I.out y y0 y1 hy
  · rw [hrd y (o.rng y hy).1] at h0 ⊢
    by_cases hyb : y = b
    · rw [if_pos hyb] at h0 ⊢
      subst hyb
      exact ⟨h1, by omega, hdone v h1 h2⟩
    · rw [if_neg hyb] at h0 ⊢
      have h4 := I.inn y hy h0
      exact ⟨h4.1, h4.2.1, hdone _ h4.1 h4.2.2⟩
  · rw [hrd y (o.rng y hy).1] at h0 ⊢
    by_cases hyb : y = b
    · rw [if_pos hyb] at h0 ⊢
      subst hyb
      exact .up hb0 hv.2.2.2
    · rw [if_neg hyb] at h0 ⊢
      exact I.tree y hy h0
  · -- what dominates y stands above it yet
    have hb' : ∀ x ∈ order, ¬ Av nx x b → Up (ab.set b.toNat v) b x := by
      intro x hx hav
      by_cases hxb : b = x
      · rw [hxb]; exact .refl _
      · refine hbv x ((h3 x).2 ⟨fun h => by have := (o.rng _ h).1; omega, fun a ha hai had => I.snd a hai had x hx (fun h => hav (.step h ((hprev b a).1 ha).2.2 hxb))⟩)
    by_cases hyb : y = b
    · rw [hyb] at hav ⊢
      exact hb' x hx hav
    have hdy' : Done ab y := by
      rcases hdy with h | h
      · exact .inl h
      · rw [hrd y (o.rng y hy).1, if_neg hyb] at h
        exact .inr h
    have hyx := I.snd y hy hdy' x hx hav
    by_cases hub : Up ab y b
    · rcases hyx.lin hub with h4 | h4
      · exact L2 hyx hy h4
      · by_cases hxb : b = x
        · subst hxb; exact L2 hyx hy (.refl _)
        have hlt := up_ne o I h4 hb hxb
        have hT := (hub.inn I hy).2.2.2
        exact (L2 hub hy (.refl _)).trans (hb' x hx (fun h => hav (h.on hp hT hy hlt)))
    · exact L1 hyx hy hub
end
def IsWay (nx : Int → List Int) : List Int → Prop
  | [] => False
  | [a] => a = 0
  | c :: a :: w => c ∈ nx a ∧ IsWay nx (a :: w)
theorem IsWay.inn (o : Ok nx n order pl) : ∀ {w : List Int}, IsWay nx w → ∀ a ∈ w, a ∈ order
  | [], h, _, _ => h.elim
  | [c], h, a, ha => by
    rw [List.mem_singleton.1 ha]
    have : c = 0 := h
    rw [this]
    exact o.z
  | c :: d :: w, h, a, ha => by
    have h2 := IsWay.inn o h.2
    rcases List.mem_cons.1 ha with rfl | ha
    · exact (o.tgt d (h2 d (by simp)) a h.1).2
    · exact h2 a ha
theorem IsWay.tail : ∀ {u w : List Int} {a : Int}, IsWay nx (u ++ a :: w) → IsWay nx (a :: w)
  | [], _, _, h => h
  | [_], _, _, h => h.2
  | _ :: d :: u, _, _, h => IsWay.tail (u := d :: u) h.2
def QI (nx : Int → List Int) (i : Nat) (ab : List Int) : Prop := ∀ (y a : Int) (w : List Int), IsWay nx (y :: a :: w) → w.length < i → rd ab y ∈ a :: w
theorem QI.up {i : Nat} {p : Int → Int} {ab : List Int} (I : Inv nx n order pl p ab) (q : QI nx i ab) {a z : Int} (h : Up ab a z) : ∀ w : List Int, IsWay nx (a :: w) → w.length ≤ i → z ∈ a :: w := by
  induction h with
  | refl => intro w _ _; simp
  | @up y x h0 _ ih =>
    intro w hw hl
    match w, hw, hl with
    | [], hw, _ =>
      have e : y = 0 := hw
      subst e
      have := I.zero
      omega
    | a :: w, hw, hl =>
      have hm := q y a w hw (by simp only [List.length_cons] at hl; omega)
      obtain ⟨u, v, e⟩ := List.append_of_mem hm
      have hw2 : IsWay nx (rd ab y :: v) := IsWay.tail (u := u) (by rw [← e]; exact hw.2)
      have hlen : v.length ≤ i := by
        have := congrArg List.length e
        simp only [List.length_cons, List.length_append] at this hl
        omega
      have := ih v hw2 hlen
      exact List.mem_cons_of_mem _ (by rw [e]; exact List.mem_append.2 (.inr this))
section
variable {p : Int → Int} {kf : Nat} {prev : Int → List Int} (o : Ok nx n order pl) (hp : IsPar nx order pl p) (hkf : 2 * order.length ≤ kf) (hprev : ∀ b a, a ∈ prev b ↔ 0 ≤ a ∧ a < (n : Int) ∧ b ∈ nx a)
include o hp hkf hprev
theorem pass_ok {i : Nat} : ∀ (r pre : List Int) (ab : List Int) (ch : Bool), order = pre ++ r → pre ≠ [] → Inv nx n order pl p ab → (∀ y ∈ pre, Done ab y) → QI nx i ab → ((∀ y ∈ order, Done ab y) ∨ i = 0) → (∀ y ∈ pre, ∀ (a : Int) (w : List Int), IsWay nx (y :: a :: w) → w.length < i + 1 → rd ab y ∈ a :: w) →
    ∃ ab' ch', passF n pl kf prev ab ch r = some (ab', ch') ∧ Inv nx n order pl p ab' ∧ (∀ y ∈ order, Done ab' y) ∧ QI nx (i + 1) ab' ∧ (ch' = false → ch = false ∧ ab' = ab) ∧ (ch' = true → ch = true ∨ ∃ b ∈ order, rd ab' b ≠ rd ab b) ∧ (∀ y, 0 ≤ y → y ∉ r → rd ab' y = rd ab y)
  | [], pre, ab, ch, ho, _, I, hd, q, _, qp => by
    rw [List.append_nil] at ho
    refine ⟨ab, ch, rfl, I, fun y hy => hd y (ho ▸ hy), fun y a w hw hl => qp y ?_ a w hw hl, fun h => ⟨h, rfl⟩, fun h => .inl h, fun _ _ _ => rfl⟩
    rw [← ho]
    exact IsWay.inn o hw y (by simp)
  | b :: r, pre, ab, ch, ho, hpre, I, hd, q, hall, qp => by
    have hb : b ∈ order := by rw [ho]; simp
    have hplb : rd pl b = pre.length := o.ple pre.length b (by rw [ho]; simp)
    have hlp : 0 < pre.length := List.length_pos_iff.2 hpre
    have hb0 : b ≠ 0 := by
      rintro rfl
      have := o.plz
      omega
    have hin : ∀ c ∈ order, rd pl c < rd pl b → c ∈ pre := by
      intro c hc hlt
      obtain ⟨j, hj⟩ := List.mem_iff_getElem?.1 hc
      have := o.ple j c hj
      have hjl : j < pre.length := by omega
      rw [ho, List.getElem?_append_left hjl] at hj
      exact List.mem_of_getElem? hj
    obtain ⟨p1, p2, p3⟩ := hp b hb hb0
    obtain ⟨v, e, hv, I', hup⟩ := step_ok o I hp hkf hprev hb hb0 (hd _ (hin _ p1 p3))
    have b0 := o.rng b hb
    have hrd : ∀ y, 0 ≤ y → rd (ab.set b.toNat v) y = if y = b then v else rd ab y := fun y hy => rd_set b0.1 (by rw [I.len]; exact b0.2) hy
    have hdone : ∀ y ∈ order, Done ab y → Done (ab.set b.toNat v) y := by
      intro y hy h
      by_cases h4 : y = 0
      · exact .inl h4
      · right
        rw [hrd y (o.rng y hy).1]
        split
        · exact (o.rng v hv).1
        · rcases h with h | h
          · exact absurd h h4
          · exact h
    have hbp : b ∉ pre := by
      intro hm
      obtain ⟨j, hj⟩ := List.mem_iff_getElem?.1 hm
      have hjl := (List.getElem?_eq_some_iff.1 hj).1
      have := o.ple j b (by rw [ho, List.getElem?_append_left hjl]; exact hj)
      omega
    have qb : ∀ (a : Int) (w : List Int), IsWay nx (b :: a :: w) → w.length < i + 1 → v ∈ a :: w := by
      intro a w hw hl
      have ha := IsWay.inn o hw a (by simp)
      have hda : Done ab a := by
        rcases hall with h | h
        · exact h a ha
        · subst h
          obtain rfl : w = [] := List.eq_nil_of_length_eq_zero (by omega)
          exact .inl hw.2
      exact q.up I (hup a ha hw.1 hda) w hw.2 (by omega)
    have q' : QI nx i (ab.set b.toNat v) := by
      intro y a w hw hl
      rw [hrd y (o.rng y (IsWay.inn o hw y (by simp))).1]
      split
      · rename_i h; subst h; exact qb a w hw (by omega)
      · exact q y a w hw hl
    obtain ⟨ab', ch', e1, e2, e3, e4, e5, e6, e7⟩ := pass_ok r (pre ++ [b]) (ab.set b.toNat v) (ch || v != rd ab b) (by rw [ho]; simp) (by simp) I'
      (fun y hy => by
        rcases List.mem_append.1 hy with hy | hy
        · exact hdone y (by rw [ho]; exact List.mem_append.2 (.inl hy)) (hd y hy)
        · rw [List.mem_singleton.1 hy]
          right
          rw [hrd b b0.1, if_pos rfl]
          exact (o.rng v hv).1)
      q' (hall.imp_left (fun h y hy => hdone y hy (h y hy)))
      (fun y hy a w hw hl => by
        rw [hrd y (o.rng y (IsWay.inn o hw y (by simp))).1]
        split
        · rename_i h; subst h; exact qb a w hw hl
        · rename_i h
          rcases List.mem_append.1 hy with hy | hy
          · exact qp y hy a w hw hl
          · exact absurd (List.mem_singleton.1 hy) h)
    refine ⟨ab', ch', ?_, e2, e3, e4, fun h => ?_, fun h => ?_, fun y y0 hy => ?_⟩
    · show (if 0 ≤ b ∧ b < (n : Int) then ((nextOf n ab pl kf (-1) (prev b)).bind fun v => passF n pl kf prev (ab.set b.toNat v) (ch || v != rd ab b) r) else none) = _
      rw [if_pos ⟨b0.1, b0.2⟩, e]
      exact e1
    · obtain ⟨h1, h2⟩ := e5 h
      rw [Bool.or_eq_false_iff] at h1
      have h3 : v = rd ab b := by simpa using h1.2
      rw [h3, set_same b0.1 (by rw [I.len]; exact b0.2)] at h2
      exact ⟨h1.1, h2⟩
    · have hbr : b ∉ r := by
        intro hm
        obtain ⟨j, hj⟩ := List.mem_iff_getElem?.1 hm
        have := o.ple (pre.length + (j + 1)) b (by rw [ho, List.getElem?_append_right (by omega), Nat.add_sub_cancel_left]; exact hj)
        omega
      have hbv : rd ab' b = v := by rw [e7 b b0.1 hbr, hrd b b0.1, if_pos rfl]
      by_cases hne : v = rd ab b
      · rcases e6 h with h1 | ⟨c, hc, h1⟩
        · left
          simpa [hne] using h1
        · right
          refine ⟨c, hc, fun h2 => h1 ?_⟩
          rw [h2, hrd c (o.rng c hc).1]
          split
          · rename_i h3; rw [h3, hne]
          · rfl
      · exact .inr ⟨b, hb, by rw [hbv]; exact hne⟩
    · rw [e7 y y0 (fun h => hy (by simp [h])), hrd y y0, if_neg (fun h => hy (by simp [h]))]
end
theorem nodup_le : ∀ (l r : List Int), l.Nodup → (∀ x ∈ l, x ∈ r) → l.length ≤ r.length
  | [], _, _, _ => Nat.zero_le _
  | a :: l, r, h, hs => by
    have h1 := List.nodup_cons.1 h
    have ha := hs a (by simp)
    have := nodup_le l (r.erase a) h1.2 (fun x hx => (List.mem_erase_of_ne (fun e => h1.1 (by rw [← e]; exact hx))).2 (hs x (by simp [hx])))
    rw [List.length_erase_of_mem ha] at this
    have := List.length_pos_of_mem ha
    simp only [List.length_cons]
    omega
theorem Av.way {x y : Int} (h : Av nx x y) : ∃ w, IsWay nx (y :: w) ∧ x ∉ y :: w ∧ (y :: w).Nodup := by
  induction h with
  | zero h => exact ⟨[], rfl, by simpa using h, by simp⟩
  | @step a c _ hc hne ih =>
    obtain ⟨w, h1, h2, h3⟩ := ih
    by_cases hm : c ∈ a :: w
    · obtain ⟨u, v, e⟩ := List.append_of_mem hm
      rw [e] at h1 h2 h3
      exact ⟨v, IsWay.tail h1, fun h => h2 (List.mem_append.2 (.inr h)), (List.nodup_append.1 h3).2.1⟩
    · exact ⟨a :: w, ⟨hc, h1⟩, by simp only [List.mem_cons] at h2 ⊢; rintro (h | h); exact hne h.symm; exact h2 h, List.nodup_cons.2 ⟨hm, h3⟩⟩
theorem up_iff {p : Int → Int} {ab : List Int} (o : Ok nx n order pl) (I : Inv nx n order pl p ab) (hd : ∀ y ∈ order, Done ab y) (q : QI nx order.length ab) {b : Int} (hb : b ∈ order) (x : Int) : Up ab b x ↔ x ∈ order ∧ ¬ Av nx x b := by
  constructor
  · intro h
    refine ⟨(h.inn I hb).1, fun hav => ?_⟩
    obtain ⟨w, h1, h2, h3⟩ := hav.way
    refine h2 (q.up I h w h1 ?_)
    have := nodup_le _ order h3 (fun a ha => IsWay.inn o h1 a ha)
    simp only [List.length_cons] at this
    omega
  · exact fun h => I.snd b hb (hd b hb) x h.1 h.2
theorem above_uniq {p : Int → Int} {ab ab' : List Int} (o : Ok nx n order pl) (I : Inv nx n order pl p ab) (hd : ∀ y ∈ order, Done ab y) (q : QI nx order.length ab) (I' : Inv nx n order pl p ab') (hd' : ∀ y ∈ order, Done ab' y) (q' : QI nx order.length ab') {b : Int} (hb : b ∈ order) (h0 : b ≠ 0) : rd ab' b = rd ab b := by
  have one : ∀ {ab ab' : List Int}, Inv nx n order pl p ab → (∀ y ∈ order, Done ab y) → QI nx order.length ab → Inv nx n order pl p ab' → (∀ y ∈ order, Done ab' y) → QI nx order.length ab' → rd pl (rd ab b) ≤ rd pl (rd ab' b) ∧ rd ab b ∈ order := by
    intro ab ab' I hd q I' hd' q'
    have hz : 0 ≤ rd ab b := (hd b hb).resolve_left h0
    have hz' : 0 ≤ rd ab' b := (hd' b hb).resolve_left h0
    have h1 := I.inn b hb hz
    have h2 : Up ab b (rd ab b) := .up hz (.refl _)
    have h3 := (up_iff o I' hd' q' hb _).2 ((up_iff o I hd q hb _).1 h2)
    refine ⟨?_, h1.1⟩
    have key : ∀ z, Up ab' b z → z ≠ b → Up ab' (rd ab' b) z := by
      intro z h hne
      cases h with
      | refl => exact absurd rfl hne
      | up _ h => exact h
    have h4 := key _ h3 (fun e => by have := h1.2.1; rw [e] at this; omega)
    exact (h4.inn I' (I'.inn b hb hz').1).2.1
  have a := one I hd q I' hd' q'
  have c := one I' hd' q' I hd q
  exact o.inj c.2 a.2 (by omega)
theorem QI.mono {i j : Nat} {ab : List Int} (q : QI nx i ab) (h : j ≤ i) : QI nx j ab := fun y a w hw hl => q y a w hw (by omega)
theorem loop_ok {p : Int → Int} {kf : Nat} {prev : Int → List Int} (o : Ok nx n order pl) (hp : IsPar nx order pl p) (hkf : 2 * order.length ≤ kf) (hprev : ∀ b a, a ∈ prev b ↔ 0 ≤ a ∧ a < (n : Int) ∧ b ∈ nx a) :
    ∀ (d i k : Nat) (ab : List Int), order.length + 1 - i ≤ d → d < k → Inv nx n order pl p ab → QI nx i ab → ((∀ y ∈ order, Done ab y) ∨ i = 0) → ∃ ab', loopF n pl kf prev order.tail k ab = some ab' ∧ Inv nx n order pl p ab' ∧ (∀ y ∈ order, Done ab' y) ∧ QI nx order.length ab' := by
  obtain ⟨rest, ho⟩ : ∃ rest, order = 0 :: rest := by
    have := o.hd
    match order, this with
    | a :: r, h => exact ⟨r, by simp at h; rw [h]⟩
  have hpass : ∀ (i : Nat) (ab : List Int), Inv nx n order pl p ab → QI nx i ab → ((∀ y ∈ order, Done ab y) ∨ i = 0) → ∃ ab' ch', passF n pl kf prev ab false order.tail = some (ab', ch') ∧ Inv nx n order pl p ab' ∧ (∀ y ∈ order, Done ab' y) ∧ QI nx (i + 1) ab' ∧ (ch' = false → ab' = ab) ∧ (ch' = true → ∃ b ∈ order, rd ab' b ≠ rd ab b) := by
    intro i ab I q hall
    obtain ⟨ab', ch', e1, e2, e3, e4, e5, e6, _⟩ := pass_ok o hp hkf hprev (i := i) order.tail [0] ab false (by rw [ho]; rfl) (by simp) I (fun y hy => .inl (List.mem_singleton.1 hy)) q hall
      (fun y hy a w hw _ => by
        rw [List.mem_singleton.1 hy] at hw
        have h1 := IsWay.inn o hw.2 a (by simp)
        have := (o.tgt a h1 0 hw.1).1
        omega)
    exact ⟨ab', ch', e1, e2, e3, e4, fun h => (e5 h).2, fun h => (e6 h).resolve_left (by simp)⟩
  intro d
  induction d with
  | zero =>
    intro i k ab hi hk I q hall
    obtain ⟨k, rfl⟩ : ∃ m, k = m + 1 := ⟨k - 1, by omega⟩
    have hd : ∀ y ∈ order, Done ab y := hall.resolve_right (by omega)
    obtain ⟨ab', ch', e1, e2, e3, e4, e5, e6⟩ := hpass i ab I q hall
    have hch : ch' = false := by
      cases hc : ch' with
      | false => rfl
      | true =>
        obtain ⟨b, hb, hne⟩ := e6 hc
        exfalso
        by_cases h0 : b = 0
        · subst h0
          exact hne (by
            have h1 := hpass i ab I q hall
            obtain ⟨ab2, ch2, f1, f2, f3, f4, f5, f6, f7⟩ := pass_ok o hp hkf hprev (i := i) order.tail [0] ab false (by rw [ho]; rfl) (by simp) I (fun y hy => .inl (List.mem_singleton.1 hy)) q hall
              (fun y hy a w hw _ => by
                rw [List.mem_singleton.1 hy] at hw
                have h1 := IsWay.inn o hw.2 a (by simp)
                have := (o.tgt a h1 0 hw.1).1
                omega)
            rw [e1] at f1
            injection f1 with f1
            injection f1 with f1 _
            rw [f1]
            refine f7 0 (by omega) (fun hm => ?_)
            rw [ho] at hm
            obtain ⟨j, hj⟩ := List.mem_iff_getElem?.1 hm
            have := o.ple (j + 1) 0 (by rw [ho]; exact hj)
            have := o.plz
            omega)
        · exact hne (above_uniq o I hd (q.mono (by omega)) e2 e3 (e4.mono (by omega)) hb h0)
    refine ⟨ab', ?_, e2, e3, e4.mono (by omega)⟩
    unfold loopF
    rw [e1]
    simp [hch]
  | succ d ih =>
    intro i k ab hi hk I q hall
    obtain ⟨k, rfl⟩ : ∃ m, k = m + 1 := ⟨k - 1, by omega⟩
    obtain ⟨ab', ch', e1, e2, e3, e4, e5, e6⟩ := hpass i ab I q hall
    cases hc : ch' with
    | true =>
      obtain ⟨ab2, f1, f2⟩ := ih (i + 1) k ab' (by omega) (by omega) e2 e4 (.inl e3)
      refine ⟨ab2, ?_, f2⟩
      unfold loopF
      rw [e1]
      simp only [Option.bind_some, hc, if_true]
      exact f1
    | false =>
      have he := e5 hc
      subst he
      have key : ∀ m, QI nx (i + 1 + m) ab' := by
        intro m
        induction m with
        | zero => exact e4
        | succ m ihm =>
          obtain ⟨ab2, ch2, g1, _, _, g4, _, _⟩ := hpass (i + 1 + m) ab' e2 ihm (.inl e3)
          rw [e1] at g1
          injection g1 with g1
          injection g1 with g1 _
          rw [g1]
          exact g4
      refine ⟨ab', ?_, e2, e3, (key order.length).mono (by omega)⟩
      unfold loopF
      rw [e1]
      simp [hc]
end
def placeL : List Int → Nat → List Int → List Int
  | pl, _, [] => pl
  | pl, i, b :: r => placeL (pl.set b.toNat (i : Int)) (i + 1) r
def deepF (n : Nat) (ab : List Int) : List Int → List Int → Option (List Int)
  | dp, [] => some dp
  | dp, b :: r => if 0 ≤ rd ab b ∧ rd ab b < (n : Int) then deepF n ab (dp.set b.toNat (wrap64 (rd dp (rd ab b) + 1))) r else none
def growF (n : Nat) (order : List Int) (prev : Int → List Int) (kf k : Nat) : Option (List Int × List Int) :=
  if order.all (fun b => decide (0 ≤ b ∧ b < (n : Int))) = true ∧ 0 < order.length ∧ order.length ≤ 8796093022208 then
    (loopF n (placeL (List.replicate n (-1)) 0 order) kf prev (order.drop 1) k (List.replicate n (-1))).bind fun ab => (deepF n ab ((List.replicate n (-1)).set (rd order 0).toNat 0) (order.drop 1)).map fun dp => (ab, dp)
  else none
def initL (i n : Nat) : List Int := List.replicate i (-1) ++ List.replicate (n - i) 0
theorem initL_set {i n : Nat} (h : i < n) : (initL i n).set i (-1) = initL (i + 1) n := by
  unfold initL
  rw [List.set_append_right _ _ (by simp), List.length_replicate, Nat.sub_self, show n - i = (n - (i + 1)) + 1 by omega, List.replicate_succ, List.set_cons_zero, List.replicate_succ', List.append_assoc]
  rfl
theorem initL_all (n : Nat) : initL n n = List.replicate n (-1) := by simp [initL]
def thereB (n : Nat) (dp : List Int) (b : Int) : Bool := decide (0 ≤ b ∧ b < (n : Int) ∧ 0 ≤ rd dp b)
def climbF (n : Nat) (ab dp : List Int) (a : Int) : Nat → Int → Option Bool
  | 0, _ => none
  | k + 1, b => if 0 ≤ b ∧ b < (n : Int) then (if rd dp b > rd dp a then climbF n ab dp a k (rd ab b) else some (decide (a = b))) else none
def domF (n : Nat) (ab dp : List Int) (k : Nat) (a b : Int) : Option Bool := if thereB n dp a = true ∧ thereB n dp b = true then climbF n ab dp a k b else some false
def kidsL (ab : List Int) (b : Int) : Nat → List Int
  | 0 => []
  | i + 1 => if rd ab (i : Int) = b ∧ 0 ≤ rd ab (i : Int) then kidsL ab b i ++ [(i : Int)] else kidsL ab b i
def upF (n : Nat) (ab : List Int) (wi : List Int → Int → Option (List Int)) : Nat → Int → List Int → Option (List Int)
  | 0, _, _ => none
  | k + 1, b, s => if 0 ≤ b ∧ b < (n : Int) then (if 0 ≤ rd ab b then (wi s (rd ab b)).bind fun t => upF n ab wi k (rd ab b) t else some s) else none
def findF (n : Nat) (ab : List Int) (ha : List Int → Int → Option Bool) (s : List Int) : Nat → Int → Option Int
  | 0, _ => none
  | k + 1, b => (ha s b).bind fun t => if t = true then some b else if 0 ≤ b ∧ b < (n : Int) then findF n ab ha s k (rd ab b) else none
def meet2F (n : Nat) (ab dp : List Int) (f : Int → Option (List Int)) (wi : List Int → Int → Option (List Int)) (ha : List Int → Int → Option Bool) (k : Nat) (a b : Int) : Option Int :=
  if thereB n dp a = true ∧ thereB n dp b = true then ((f a).bind fun s0 => (upF n ab wi k a s0).bind fun s => findF n ab ha s k b) else some (-1)
theorem kidsL_len (ab : List Int) (b : Int) : ∀ i, (kidsL ab b i).length ≤ i
  | 0 => Nat.zero_le _
  | i + 1 => by
    have := kidsL_len ab b i
    unfold kidsL
    split
    · rw [List.length_append]; simp only [List.length_cons, List.length_nil]; omega
    · omega
end Go.Proofs.Ytcknmcfomkbenaa.D
