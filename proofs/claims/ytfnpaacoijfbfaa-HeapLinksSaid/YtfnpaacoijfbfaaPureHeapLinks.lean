/- HeapLinks in plain Lean: what is linked is led to, and reached. -/
import Derived.Test.YtfnpaacoijfbfaaPXx12
import Derived.Test.YtfnpaacoijfbfaaPd
import Derived.Test.YtfnpaacoijfbfaaPs
namespace Go.Proofs.Ytfnpaacoijfbfaa.Pure
open Go.RowKit Go.Proofs.YtfnpaacoijfbfaaW.PrintWords Go.Proofs.YtfnpaacoijfbfaaW.PrintLast Go.Proofs.YtfnpaacoijfbfaaW.PrintMore Go.Proofs.Ytfnpaacoijfbfaa.PX Go.Proofs.Ytfnpaacoijfbfaa.E Go.Proofs.Ytfnpaacoijfbfaa.PC
/-- An object that must be there: it, or why not. -/
theorem object_ok (l : List S47) (hr : H.rightB l = true) (a : Nat) (h0 : 0 < a) (h1 : a - 1 < l.length) (hl : l.length ≤ 301) : heap_object.f l (a : Int) = some (l[a - 1].f0, l[a - 1].f1, 0) := by
  have hw : wrap64 ((a : Int) - 1) = ((a - 1 : Nat) : Int) := by unfold wrap64; omega
  simp only [heap_object.f, heap_Right.f, Option.bind_some, hr, if_true, hw, rdT_at h1]
  rw [if_neg (by omega), if_neg (by omega), if_neg (by omega), if_pos (by omega), if_pos (by omega)]
theorem object_cases (l : List S47) (_hl : l.length ≤ 301) (a : Int) : (∃ b : Nat, a = b ∧ 0 < b ∧ b - 1 < l.length ∧ H.rightB l = true) ∨ ∃ e : Int, e ≠ 0 ∧ heap_object.f l a = some ([], [], e) := by
  simp only [heap_object.f, heap_Right.f, Option.bind_some]
  cases hr : H.rightB l with
  | false => exact .inr ⟨1, by decide, rfl⟩
  | true =>
    by_cases h0 : a = 0
    · exact .inr ⟨14, by decide, by rw [if_pos rfl, if_pos h0]⟩
    by_cases h1 : a < 0
    · exact .inr ⟨1, by decide, by rw [if_pos rfl, if_neg h0, if_pos h1]⟩
    by_cases h2 : a > (l.length : Int)
    · exact .inr ⟨1, by decide, by rw [if_pos rfl, if_neg h0, if_neg h1, if_pos h2]⟩
    · exact .inl ⟨a.toNat, by omega, by omega, by omega, rfl⟩
theorem field_ok (l : List Int) (n : Nat) (h : n < l.length) : heap_field.f l (n : Int) = some (l[n], 0) := by
  simp only [heap_field.f, rd_at h]
  rw [if_neg (by omega), if_neg (by omega), if_pos (by omega), if_pos (by omega)]
theorem field_cases (l : List Int) (n : Int) : (∃ b : Nat, n = b ∧ b < l.length) ∨ heap_field.f l n = some (0, 15) := by
  simp only [heap_field.f]
  by_cases h0 : n < 0
  · exact .inr (if_pos h0)
  by_cases h1 : n ≥ (l.length : Int)
  · exact .inr (by rw [if_neg h0, if_pos h1])
  · exact .inl ⟨n.toNat, by omega, by omega⟩
theorem put_ok (l : List S47) (hl : l.length ≤ 301) (a : Nat) (h0 : 0 < a) (h1 : a - 1 < l.length) (f0 f1 : List Int) : heap_put.f l (a : Int) f0 f1 = some (l.set (a - 1) ⟨f0, f1⟩) := by
  have hw : wrap64 ((a : Int) - 1) = ((a - 1 : Nat) : Int) := by unfold wrap64; omega
  have hc : l.length ≤ 2932031007402 := by omega
  simp only [heap_put.f, api_Obj_42.f, if_pos hc, Option.bind_some, hw, Int.toNat_natCast]
  rw [if_pos (by omega), if_pos (by omega)]
theorem set_right (l : List S47) (hr : H.rightB l = true) (i : Nat) (o : S47) (ho : o.f0.length ≤ 8 ∧ o.f1.length ≤ 8 ∧ ∀ x ∈ o.f0, 0 ≤ x ∧ x ≤ l.length) : H.rightB (l.set i o) = true := by
  unfold H.rightB
  rw [Bool.not_eq_true', List.any_eq_false]
  intro p hp
  simp only [H.objB, Bool.or_eq_true, decide_eq_true_eq, not_or]
  rw [Bool.not_eq_true, List.any_eq_false, List.length_set]
  have key : p.f0.length ≤ 8 ∧ p.f1.length ≤ 8 ∧ ∀ x ∈ p.f0, 0 ≤ x ∧ x ≤ l.length := by
    rcases List.mem_or_eq_of_mem_set hp with hp | rfl
    · exact right_ref hr hp
    · exact ho
  refine ⟨⟨by omega, by omega⟩, fun x hx => ?_⟩
  have := key.2.2 x hx
  simp only [H.badB, Bool.or_eq_true, decide_eq_true_eq, not_or]
  omega
theorem links_l0 (l : List S47) (hr : H.rightB l = true) (tt a f : Int) (r : List Int) (hrl : r.length ≤ 400) : ∀ n i (b : Bool), i + n = r.length → (b = true ∨ tt ∈ r.drop i) → Ev (fun k => portolanlaw09_HeapLinks.l0 k tt 0 r b (i : Int) a f tt l) true
  | 0, i, b, h, hb => by
    have hb' : b = true := hb.elim id (fun h2 => by rw [List.drop_of_length_le (by omega)] at h2; cases h2)
    refine Ev.step (fun _ => rfl) ?_
    simp only [portolanlaw09_HeapLinks.l0, heap_Right.f, Option.bind_some, hr, hb']
    refine Ev.neg (by omega) ?_
    simp only [if_true]
    exact Ev.now _
  | n + 1, i, b, h, hb => by
    have h1 : i < r.length := by omega
    refine Ev.step (fun _ => rfl) ?_
    simp only [portolanlaw09_HeapLinks.l0]
    rw [rd_at h1, w1 (by omega)]
    refine Ev.pos (by omega) ?_
    cases b with
    | true => exact Ev.pos rfl (links_l0 l hr tt a f r hrl n (i + 1) true (by omega) (.inl rfl))
    | false =>
      refine Ev.neg (by decide) (Ev.pos (by omega) (links_l0 l hr tt a f r hrl n (i + 1) _ (by omega) ?_))
      rcases hb with hb | hb
      · cases hb
      · rw [List.drop_eq_getElem_cons h1] at hb
        rcases List.mem_cons.1 hb with hb | hb
        · exact .inl (by rw [hb]; simp)
        · exact .inr hb
theorem HeapLinks (l0 : List S47) (a0 a1 a2 : Int) (w0 : l0.length * 48 ≤ 140737488351232 ∧ ∀ x ∈ l0, (x.f0.length * 8 ≤ 140737488351232 ∧ ∀ y ∈ x.f0, (Lit.int .i64 y).wf = true) ∧ (x.f1.length * 8 ≤ 140737488351232 ∧ ∀ y ∈ x.f1, (Lit.int .i64 y).wf = true))
    (_w1 : (Lit.int .i64 a0).wf = true ∧ (Lit.int .i64 a1).wf = true ∧ (Lit.int .i64 a2).wf = true) : ∃ k, portolanlaw09_HeapLinks.f k l0 a0 a1 a2 = some true := by
  refine Ev.rounds ?_
  have hz := sizes w0
  obtain ⟨b, hg, hg2⟩ := great l0 hz.1 hz.2
  simp only [portolanlaw09_HeapLinks.f]
  refine Ev.bind alive (Ev.pos rfl (Ev.bind hg ?_))
  cases b with
  | true => exact Ev.pos rfl (Ev.now _)
  | false =>
    refine Ev.neg (by decide) ?_
    have hs := small (hg2 rfl)
    have hsame := same l0 (by omega) (fun o ho => by have := hs.2 o ho; omega)
    have no : ∀ e : Int, e ≠ 0 → heap_Link.f l0 a0 a1 a2 = some (l0, e) → Ev (fun k => (heap_Link.f l0 a0 a1 a2).bind fun bt387 => (if bt387.2 = 0 then ((heap_Ref.f bt387.1 a0 a1).bind fun bt393 => ((heap_Reach.f k bt387.1 (([a0] : List Int))).bind fun t398 => (portolanlaw09_HeapLinks.l0 k bt393.1 bt393.2 t398 (a2 == 0) 0 a0 a1 a2 bt387.1))) else ((portolanref09_Same.f k bt387.1 l0).bind fun t392 => (some t392)))) true := by
      intro e he h
      simp only [h, Option.bind_some]
      exact Ev.neg he (Ev.bind hsame (Ev.now _))
    rcases object_cases l0 (by omega) a0 with ⟨a, rfl, h0, h1, hr⟩ | ⟨e, he, ho⟩
    · have ho := object_ok l0 hr a h0 h1 (by omega)
      have h8 := right_ref hr (List.getElem_mem h1)
      by_cases c1 : a2 < 0
      · exact no 1 (by decide) (by simp only [heap_Link.f, ho, Option.bind_some, if_true, if_pos c1])
      by_cases c2 : a2 > (l0.length : Int)
      · exact no 1 (by decide) (by simp only [heap_Link.f, ho, Option.bind_some, if_true, if_neg c1, if_pos c2])
      rcases field_cases l0[a - 1].f0 a1 with ⟨f, rfl, h2⟩ | hf
      · have hf := field_ok _ f h2
        have hc : l0[a - 1].f0.length ≤ 17592186044416 := by omega
        have hL : heap_Link.f l0 (a : Int) (f : Int) a2 = some (l0.set (a - 1) ⟨l0[a - 1].f0.set f a2, l0[a - 1].f1⟩, 0) := by
          simp only [heap_Link.f, ho, Option.bind_some, if_true, if_neg c1, if_neg c2, hf, slices_Clone_int_int.f, if_pos hc, put_ok l0 (show l0.length ≤ 301 by omega) a h0 h1, Int.toNat_natCast]
          rw [if_pos (by omega), if_pos (by omega)]
        have hx : H.rightB (l0.set (a - 1) ⟨l0[a - 1].f0.set f a2, l0[a - 1].f1⟩) = true := by
          refine set_right l0 hr _ _ ⟨by rw [List.length_set]; exact h8.1, h8.2.1, fun x hx => ?_⟩
          rcases List.mem_or_eq_of_mem_set hx with hx | rfl
          · exact h8.2.2 x hx
          · omega
        have hxl : (l0.set (a - 1) (⟨l0[a - 1].f0.set f a2, l0[a - 1].f1⟩ : S47)).length = l0.length := List.length_set
        have h1x : a - 1 < (l0.set (a - 1) (⟨l0[a - 1].f0.set f a2, l0[a - 1].f1⟩ : S47)).length := by omega
        have hget : (l0.set (a - 1) (⟨l0[a - 1].f0.set f a2, l0[a - 1].f1⟩ : S47))[a - 1]'h1x = ⟨l0[a - 1].f0.set f a2, l0[a - 1].f1⟩ := List.getElem_set_self _
        have hO := object_ok _ hx a h0 h1x (by omega)
        rw [hget] at hO
        have hF := field_ok (l0[a - 1].f0.set f a2) f (by rw [List.length_set]; exact h2)
        rw [List.getElem_set_self] at hF
        have hR : heap_Ref.f (l0.set (a - 1) ⟨l0[a - 1].f0.set f a2, l0[a - 1].f1⟩) (a : Int) (f : Int) = some (a2, 0) := by
          simp only [heap_Ref.f, hO, Option.bind_some, if_true, hF]
        obtain ⟨r, e1, i1⟩ := reach (l0.set (a - 1) ⟨l0[a - 1].f0.set f a2, l0[a - 1].f1⟩) (by omega) hx [(a : Int)] (by simp)
        have hshort := i1.short
        simp only [hL, Option.bind_some, hR]
        refine Ev.pos (by trivial) (Ev.bind e1 (links_l0 _ hx a2 a f r (by omega) r.length 0 _ (by omega) ?_))
        by_cases hz : a2 = 0
        · exact .inl (by rw [hz]; rfl)
        · refine .inr ?_
          rw [List.drop_zero]
          refine (i1.mem a2).2 ⟨a2.toNat, by omega, by omega, by omega, ?_⟩
          refine (Reached.root h0 (by omega) (by simp)).step (i := a) ⟨by omega, h0, _, List.getElem?_eq_getElem h1x, ?_⟩
          rw [hget]
          have e : ((a2.toNat : Nat) : Int) = a2 := by omega
          rw [e]
          exact List.mem_set h2 _
      · exact no 15 (by decide) (by simp only [heap_Link.f, ho, Option.bind_some, if_true, if_neg c1, if_neg c2, hf]; rfl)
    · exact no e he (by simp only [heap_Link.f, ho, Option.bind_some, if_neg he])
end Go.Proofs.Ytfnpaacoijfbfaa.Pure
