/- The tree that dom.grow grows is the tree of what dominates: plain lemmas on one function's blocks. -/
import Derived.Test.YtcknmcfomkbenaaPT
import Derived.Test.YtcknmcfomkbenaaDM
namespace Go.Proofs.Ytcknmcfomkbenaa.Pure
open Go.RowKit Go.Proofs.YtcknmcfomkbenaaW.PrintWords Go.Proofs.YtcknmcfomkbenaaW.PrintLast Go.Proofs.YtcknmcfomkbenaaW.PrintMore Go.Proofs.Ytcknmcfomkbenaa.PF Go.Proofs.Ytcknmcfomkbenaa.E Go.Proofs.Ytcknmcfomkbenaa.D
set_option linter.unusedVariables false
theorem rd_rep {n : Nat} {v b : Int} (h0 : 0 ≤ b) (h1 : b < (n : Int)) : rd (List.replicate n v) b = v := by
  unfold rd
  rw [List.getD_eq_getElem?_getD, List.getElem?_replicate, if_pos (by omega)]
  rfl
theorem placeL_rd : ∀ (r : List Int) (pl : List Int) (i : Nat), r.Nodup → (∀ b ∈ r, 0 ≤ b ∧ b < (pl.length : Int)) →
    (∀ (j : Nat) (b : Int), r[j]? = some b → rd (placeL pl i r) b = ((i + j : Nat) : Int)) ∧ (∀ b, 0 ≤ b → b ∉ r → rd (placeL pl i r) b = rd pl b)
  | [], pl, i, _, _ => ⟨fun j b h => by simp at h, fun b _ _ => rfl⟩
  | c :: r, pl, i, hn, hr => by
    have hn1 := List.nodup_cons.1 hn
    have hc := hr c (by simp)
    obtain ⟨h1, h2⟩ := placeL_rd r (pl.set c.toNat (i : Int)) (i + 1) hn1.2 (fun b hb => by rw [List.length_set]; exact hr b (by simp [hb]))
    refine ⟨fun j b hj => ?_, fun b b0 hb => ?_⟩
    · unfold placeL
      match j, hj with
      | 0, hj =>
        obtain rfl : c = b := by simpa using hj
        rw [h2 c hc.1 hn1.1, rd_set hc.1 hc.2 hc.1, if_pos rfl, Nat.add_zero]
      | j + 1, hj =>
        rw [h1 j b (by simpa using hj)]
        congr 1
        omega
    · unfold placeL
      rw [h2 b b0 (fun h => hb (by simp [h])), rd_set hc.1 hc.2 b0, if_neg (fun h => hb (by simp [h]))]
theorem ord_ok {nx : Int → List Int} {n : Nat} {l : List Int} (o : Ord nx n l) (ht : ∀ a b, b ∈ nx a → 1 ≤ b ∧ b < (n : Int)) : Ok nx n l (placeL (List.replicate n (-1)) 0 l) := by
  obtain ⟨h1, h2⟩ := placeL_rd l (List.replicate n (-1)) 0 o.nod (fun b hb => by rw [List.length_replicate]; exact o.rng b hb)
  refine ⟨o.hd, o.rng, fun a ha b hb => ?_, fun i b hi => by rw [h1 i b hi, Nat.zero_add], fun b b0 b1 hb => by rw [h2 b b0 hb, rd_rep b0 b1]; omega, fun b hb hne => ?_⟩
  · have := ht a b hb
    exact ⟨by omega, (o.mem b).2 (.step ((o.mem a).1 ha) hb (by omega) this.2)⟩
  · obtain ⟨a, ha, hbef⟩ := o.par b hb hne
    obtain ⟨u, v, e, hu⟩ := hbef
    obtain ⟨j, hj⟩ := List.mem_iff_getElem?.1 hu
    have hju := (List.getElem?_eq_some_iff.1 hj).1
    have e1 : l[j]? = some a := by rw [e, List.getElem?_append_left hju]; exact hj
    have e2 : l[u.length]? = some b := by rw [e, List.getElem?_append_right (Nat.le_refl _), Nat.sub_self]; rfl
    refine ⟨a, List.mem_of_getElem? e1, ha, ?_⟩
    rw [h1 j a e1, h1 u.length b e2]
    omega
theorem passF_keep {n : Nat} {pl : List Int} {kf : Nat} {prev : Int → List Int} : ∀ (r ab : List Int) (ch : Bool) (s : List Int × Bool), passF n pl kf prev ab ch r = some s → (∀ b ∈ r, 0 < b) → rd s.1 0 = rd ab 0
  | [], ab, ch, s, h, _ => by
    unfold passF at h
    rw [← Option.some.inj h]
  | b :: r, ab, ch, s, h, hr => by
    unfold passF at h
    split at h
    · obtain ⟨v, _, h2⟩ := Option.bind_eq_some_iff.1 h
      rw [passF_keep r _ _ s h2 (fun c hc => hr c (by simp [hc]))]
      have := hr b (by simp)
      unfold rd
      rw [List.getD_eq_getElem?_getD, List.getD_eq_getElem?_getD, List.getElem?_set_ne (by omega)]
    · cases h
theorem loopF_keep {n : Nat} {pl : List Int} {kf : Nat} {prev : Int → List Int} {r : List Int} (hr : ∀ b ∈ r, 0 < b) : ∀ (k : Nat) (ab ab' : List Int), loopF n pl kf prev r k ab = some ab' → rd ab' 0 = rd ab 0
  | 0, ab, ab', h => by cases h
  | k + 1, ab, ab', h => by
    unfold loopF at h
    obtain ⟨s, h1, h2⟩ := Option.bind_eq_some_iff.1 h
    have h3 := passF_keep r ab false s h1 hr
    split at h2
    · rw [loopF_keep hr k _ _ h2, h3]
    · rw [← Option.some.inj h2, h3]
structure Tr (nx : Int → List Int) (n : Nat) (order ab dp : List Int) : Prop where
  z : (0 : Int) ∈ order
  rng : ∀ b ∈ order, 0 ≤ b ∧ b < (n : Int)
  la : ab.length = n
  a0 : rd ab 0 < 0
  am : rd ab 0 = -1
  ao : ∀ y, 0 ≤ y → y < (n : Int) → y ∉ order → rd ab y = -1
  ai : ∀ y ∈ order, y ≠ 0 → rd ab y ∈ order
  d0 : rd dp 0 = 0
  ds : ∀ y ∈ order, y ≠ 0 → rd dp y = rd dp (rd ab y) + 1
  dn : ∀ y ∈ order, 0 ≤ rd dp y ∧ rd dp y < (n : Int)
  dout : ∀ y, 0 ≤ y → y < (n : Int) → y ∉ order → rd dp y < 0
  up : ∀ b ∈ order, ∀ x, Up ab b x ↔ x ∈ order ∧ ¬ Av nx x b
theorem deep_ok {nx : Int → List Int} {n : Nat} {order pl : List Int} {p : Int → Int} {ab : List Int} (o : Ok nx n order pl) (I : Inv nx n order pl p ab) (hd : ∀ y ∈ order, Done ab y) (hol : order.length ≤ n) (hn : n ≤ 64) :
    ∀ (r pre dp : List Int), order = pre ++ r → pre ≠ [] → dp.length = n → rd dp 0 = 0 → (∀ y ∈ pre, y ≠ 0 → rd dp y = rd dp (rd ab y) + 1) → (∀ y ∈ pre, 0 ≤ rd dp y ∧ rd dp y ≤ rd pl y) → (∀ y, 0 ≤ y → y < (n : Int) → y ∉ pre → rd dp y = -1) →
      ∃ dp', deepF n ab dp r = some dp' ∧ rd dp' 0 = 0 ∧ (∀ y ∈ order, y ≠ 0 → rd dp' y = rd dp' (rd ab y) + 1) ∧ (∀ y ∈ order, 0 ≤ rd dp' y ∧ rd dp' y ≤ rd pl y) ∧ (∀ y, 0 ≤ y → y < (n : Int) → y ∉ order → rd dp' y = -1)
  | [], pre, dp, ho, _, hl, h0, hs, hn1, hx => by
    rw [List.append_nil] at ho
    subst ho
    exact ⟨dp, rfl, h0, hs, hn1, hx⟩
  | b :: r, pre, dp, ho, hpre, hl, h0, hs, hn1, hx => by
    have hb : b ∈ order := by rw [ho]; simp
    have hplb : rd pl b = pre.length := o.ple pre.length b (by rw [ho]; simp)
    have hlp : 0 < pre.length := List.length_pos_iff.2 hpre
    have hb0 : b ≠ 0 := by
      rintro rfl
      have := o.plz
      omega
    have hin : ∀ c ∈ order, rd pl c < rd pl b → c ∈ pre := by
      intro c hc hlt
      obtain ⟨j, hj⟩ := List.mem_iff_getElem?.1 hc
      have := o.ple j c hj
      have hjl : j < pre.length := by omega
      rw [ho, List.getElem?_append_left hjl] at hj
      exact List.mem_of_getElem? hj
    have hz : 0 ≤ rd ab b := (hd b hb).resolve_left hb0
    obtain ⟨i1, i2, i3⟩ := I.inn b hb hz
    have ip := hin _ i1 i2
    have ir := o.rng _ i1
    have br := o.rng b hb
    have hd1 := hn1 _ ip
    have hpn := o.pln1 hb
    have hbp : b ∉ pre := by
      intro hm
      obtain ⟨j, hj⟩ := List.mem_iff_getElem?.1 hm
      have hjl := (List.getElem?_eq_some_iff.1 hj).1
      have := o.ple j b (by rw [ho, List.getElem?_append_left hjl]; exact hj)
      omega
    have hw : wrap64 (rd dp (rd ab b) + 1) = rd dp (rd ab b) + 1 := wid (by omega) (by omega)
    have hrd : ∀ y, 0 ≤ y → rd (dp.set b.toNat (rd dp (rd ab b) + 1)) y = if y = b then rd dp (rd ab b) + 1 else rd dp y := fun y hy => rd_set br.1 (by rw [hl]; exact br.2) hy
    have hpin : ∀ y ∈ pre, y ∈ order := fun y hy => by rw [ho]; exact List.mem_append.2 (.inl hy)
    have hne : ∀ y ∈ pre, y ≠ b := fun y hy e => hbp (e ▸ hy)
    have hkeep : ∀ y ∈ pre, rd (dp.set b.toNat (rd dp (rd ab b) + 1)) y = rd dp y := fun y hy => by rw [hrd y (o.rng y (hpin y hy)).1, if_neg (hne y hy)]
    obtain ⟨dp', e1, e2, e3, e4, e5⟩ := deep_ok o I hd hol hn r (pre ++ [b]) (dp.set b.toNat (rd dp (rd ab b) + 1)) (by rw [ho]; simp) (by simp) (by rw [List.length_set]; exact hl)
      (by rw [hrd 0 (Int.le_refl _), if_neg (fun e => hb0 e.symm)]; exact h0)
      (fun y hy y0 => by
        rcases List.mem_append.1 hy with hy | hy
        · have hyo := hpin y hy
          obtain ⟨j1, j2, j3⟩ := I.inn y hyo ((hd y hyo).resolve_left y0)
          have hyp : rd pl y < rd pl b := by
            obtain ⟨j, hj⟩ := List.mem_iff_getElem?.1 hy
            have hjl := (List.getElem?_eq_some_iff.1 hj).1
            have := o.ple j y (by rw [ho, List.getElem?_append_left hjl]; exact hj)
            omega
          rw [hkeep y hy, hkeep _ (hin _ j1 (by omega))]
          exact hs y hy y0
        · rw [List.mem_singleton.1 hy, hrd b br.1, if_pos rfl, hkeep _ ip])
      (fun y hy => by
        rcases List.mem_append.1 hy with hy | hy
        · rw [hkeep y hy]; exact hn1 y hy
        · rw [List.mem_singleton.1 hy, hrd b br.1, if_pos rfl]
          omega)
      (fun y y0 y1 hy => by
        rw [hrd y y0, if_neg (fun e => hy (by rw [e]; simp))]
        exact hx y y0 y1 (fun h => hy (List.mem_append.2 (.inl h))))
    refine ⟨dp', ?_, e2, e3, e4, e5⟩
    unfold deepF
    rw [if_pos ⟨ir.1, ir.2⟩, hw]
    exact e1
theorem grown {nx : Int → List Int} {n : Nat} {order : List Int} {prev : Int → List Int} (od : Ord nx n order) (hol : order.length ≤ n) (hn : n ≤ 64) (ht : ∀ a b, b ∈ nx a → 1 ≤ b ∧ b < (n : Int)) (hprev : ∀ b a, a ∈ prev b ↔ 0 ≤ a ∧ a < (n : Int) ∧ b ∈ nx a) :
    ∃ ab dp, growF n order prev 140 70 = some (ab, dp) ∧ Tr nx n order ab dp := by
  have o := ord_ok od ht
  obtain ⟨p, hp⟩ := o.isPar
  have hpos : 0 < order.length := (List.getElem?_eq_some_iff.1 od.hd).1
  have hrep : ∀ y ∈ order, rd (List.replicate n (-1)) y = -1 := fun y hy => rd_rep (od.rng y hy).1 (od.rng y hy).2
  have I : Inv nx n order (placeL (List.replicate n (-1)) 0 order) p (List.replicate n (-1)) := by
    refine ⟨by simp, by rw [hrep 0 o.z]; omega, fun y y0 y1 _ => rd_rep y0 y1, fun y hy h => by rw [hrep y hy] at h; omega, fun y hy h => by rw [hrep y hy] at h; omega, fun y hy hd x hx hav => ?_⟩
    rcases hd with rfl | h
    · by_cases e : x = 0
      · subst e; exact .refl _
      · exact absurd (.zero e) hav
    · rw [hrep y hy] at h; omega
  obtain ⟨ab, e1, I', hd, q⟩ := loop_ok o hp (kf := 140) (by omega) hprev (order.length + 1) 0 70 _ (by omega) (by omega) I (fun y a w _ h => by omega) (.inr rfl)
  obtain ⟨rest, ho⟩ : ∃ rest, order = 0 :: rest := by
    have := o.hd
    match order, this with
    | a :: r, h => exact ⟨r, by simp at h; rw [h]⟩
  have hset : ∀ y, 0 ≤ y → rd ((List.replicate n (-1 : Int)).set (0 : Int).toNat 0) y = if y = 0 then 0 else rd (List.replicate n (-1)) y := fun y hy => rd_set (by omega) (by rw [List.length_replicate]; exact (o.rng 0 o.z).2) hy
  obtain ⟨dp, f1, f2, f3, f4, f5⟩ := deep_ok o I' hd hol hn order.tail [0] ((List.replicate n (-1)).set (0 : Int).toNat 0) (by rw [ho]; rfl) (by simp) (by simp)
    (by rw [hset 0 (Int.le_refl _), if_pos rfl])
    (fun y hy y0 => absurd (List.mem_singleton.1 hy) y0)
    (fun y hy => by rw [List.mem_singleton.1 hy, hset 0 (Int.le_refl _), if_pos rfl, o.plz]; exact ⟨Int.le_refl _, Int.le_refl _⟩)
    (fun y y0 y1 hy => by rw [hset y y0, if_neg (fun e => hy (by rw [e]; simp)), rd_rep y0 y1])
  refine ⟨ab, dp, ?_, ⟨o.z, o.rng, I'.len, I'.zero, ?_, I'.out, fun y hy y0 => (I'.inn y hy ((hd y hy).resolve_left y0)).1, f2, f3, fun y hy => ?_, fun y y0 y1 hy => by rw [f5 y y0 y1 hy]; omega, fun b hb x => up_iff o I' hd q hb x⟩⟩
  · unfold growF
    rw [if_pos ⟨by rw [List.all_eq_true]; exact fun b hb => decide_eq_true (o.rng b hb), hpos, by omega⟩, List.drop_one, e1, Option.bind_some]
    have e0 : rd order 0 = 0 := by
      rw [ho]
      rfl
    rw [e0, f1]
    rfl
  · rw [loopF_keep (fun b hb => ?_) 70 _ _ e1, hrep 0 o.z]
    have hm : b ∈ order := by rw [ho]; rw [ho] at hb; exact List.mem_cons_of_mem _ hb
    have h1 := (o.rng b hm).1
    have hn2 := od.nod
    rw [ho] at hn2 hb
    have h2 : b ≠ 0 := fun e => (List.nodup_cons.1 hn2).1 (e ▸ hb)
    omega
  · have := f4 y hy
    have := o.pln1 hy
    omega
end Go.Proofs.Ytcknmcfomkbenaa.Pure
