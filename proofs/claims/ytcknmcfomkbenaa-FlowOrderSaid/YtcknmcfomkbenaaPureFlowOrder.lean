/- The order has the reached blocks, each once, 0 first, and leads back just where there is a way round: the plain statement. -/
import Derived.Test.YtcknmcfomkbenaaPFx14
import Derived.Test.YtcknmcfomkbenaaPFx18
import Derived.Test.YtcknmcfomkbenaaPU
import Derived.Test.YtcknmcfomkbenaaDM
namespace Go.Proofs.Ytcknmcfomkbenaa.Pure
open Go.RowKit Go.Proofs.YtcknmcfomkbenaaW.PrintWords Go.Proofs.YtcknmcfomkbenaaW.PrintLast Go.Proofs.YtcknmcfomkbenaaW.PrintMore Go.Proofs.Ytcknmcfomkbenaa.PF Go.Proofs.Ytcknmcfomkbenaa.E Go.Proofs.Ytcknmcfomkbenaa.D
set_option linter.unusedVariables false
structure Pl (l : List Int) (n k : Nat) (pl : List Int) : Prop where
  len : pl.length = n
  yes : ∀ (i : Nat) x, i < k → l[i]? = some x → rd pl x = ((i + 1 : Nat) : Int)
  no : ∀ x, 0 ≤ x → x ∉ l.take k → rd pl x = 0
theorem Pl.start (l : List Int) (n : Nat) : Pl l n 0 (List.replicate n 0) := by
  refine ⟨by simp, fun i x h => by omega, fun x h0 _ => ?_⟩
  unfold rd
  rw [List.getD_eq_getElem?_getD, List.getElem?_replicate]
  split <;> rfl
theorem flowOrder_l2 (p : List S30) (f : S30) (w : W30 f) (i : Nat) (l pl : List Int) (o : Ord (nxt f.f4) f.f4.length l) (P : Pl l f.f4.length l.length pl) (tgt : ∀ a b, b ∈ nxt f.f4 a → 1 ≤ b ∧ b < (f.f4.length : Int)) (es : List S40) (hes : es.length ≤ 17592186043904) (he : ∀ e ∈ es, 0 ≤ e.f0 ∧ e.f0 < (f.f4.length : Int) ∧ e.f1 ∈ nxt f.f4 e.f0) (H : Gives (fun k => portolanlaw05_FlowOrder.l0 k (wrap64 ((i : Int) + 1)) p) (fun r => r = true)) :
    ∀ (d j : Nat) (x y : Bool), es.length - j ≤ d → (y = true → x = true) → Gives (fun k => portolanlaw05_FlowOrder.l2 k (i : Int) pl x y es (j : Int) p f.f0 f.f1 f.f2 f.f3 f.f4) (fun r => r = true) := by
  have h4 := w.n4
  have fin : ∀ x y : Bool, (y = true → x = true) → Gives (fun k => if y = true then (if x = true then (portolanlaw05_FlowOrder.l0 k (wrap64 ((i : Int) + 1)) p) else (some false)) else (portolanlaw05_FlowOrder.l0 k (wrap64 ((i : Int) + 1)) p)) (fun r => r = true) := by
    intro x y h
    exact Gives.ite (fun hy => Gives.pos (h hy) H) (fun _ => H)
  intro d
  induction d with
  | zero =>
    intro j x y hj h
    refine Gives.step (fun _ => rfl) ?_
    simp only [portolanlaw05_FlowOrder.l2]
    exact Gives.neg (by omega) (fin x y h)
  | succ d ih =>
    intro j x y hj h
    by_cases hlt : j < es.length
    · have hE := he _ (List.getElem_mem hlt)
      have hT := tgt _ _ hE.2.2
      have hpl := P.len
      refine Gives.step (fun _ => rfl) ?_
      simp only [portolanlaw05_FlowOrder.l2]
      refine Gives.pos (by omega) (Gives.pos (by omega) ?_)
      rw [rdS40_at hlt, w1 (by omega)]
      refine Gives.pos hE.1 (Gives.pos (by omega) (Gives.ite (fun _ => ih (j + 1) x y (by omega) h) (fun hne => ?_)))
      have hin : es[j].f0 ∈ l := by
        apply Classical.byContradiction
        intro hno
        exact hne (P.no _ hE.1 (by rwa [List.take_length]))
      have back : decide (rd pl es[j].f1 ≤ rd pl es[j].f0) = true → M (withinL (nxt f.f4) f.f4.length es[j].f1 (-1)) es[j].f0 := by
        intro hd
        have hle : rd pl es[j].f1 ≤ rd pl es[j].f0 := by simpa using hd
        rw [within_is_path (by omega) hT.2]
        rcases o.bck _ hin _ hE.2.2 (by omega) hT.2 with hb | hb
        · exfalso
          obtain ⟨u, v, e, hu⟩ := hb
          obtain ⟨q, hq⟩ := List.mem_iff_getElem?.1 hu
          have hql := (List.getElem?_eq_some_iff.1 hq).1
          have e0 := P.yes q es[j].f0 (by rw [e, List.length_append]; omega) (by rw [e, List.getElem?_append_left hql]; exact hq)
          have e1 := P.yes u.length es[j].f1 (by rw [e, List.length_append]; simp) (by rw [e]; simp)
          omega
        · exact hb
      cases x with
      | true =>
        refine Gives.pos rfl (Gives.ite (fun _ => ih (j + 1) true true (by omega) (fun _ => rfl)) (fun _ => Gives.pos (by omega) (Gives.pos (by omega) (ih (j + 1) true _ (by omega) (fun _ => rfl)))))
      | false =>
        refine Gives.neg (by simp) (Gives.bind (within_gives' f w _ _ (by omega)) (fun m hm => ?_))
        subst hm
        have hl := withinL_len (nxt f.f4) f.f4.length es[j].f1 (-1)
        have hy : ¬ y = true := fun hy => by have := h hy; simp at this
        refine Gives.pos (by omega) (Gives.neg hy (Gives.pos (by omega) (Gives.pos (by omega) (ih (j + 1) _ _ (by omega) (fun hd => ?_)))))
        exact (M_rd hE.1).2 (back hd)
    · exact ih j x y (by omega) h
theorem flowOrder_l1 (p : List S30) (f : S30) (w : W30 f) (i : Nat) (l : List Int) (hl : l.length ≤ 17592186043904) (hn : l.Nodup) (hr : ∀ x ∈ l, 0 ≤ x ∧ x < (f.f4.length : Int)) (h40 : f.f4.length ≤ 4398046511103) (H : ∀ pl, Pl l f.f4.length l.length pl → Gives (fun k => portolanlaw05_FlowOrder.l2 k (i : Int) pl false false (edgesTo f.f4 f.f4.length) 0 p f.f0 f.f1 f.f2 f.f3 f.f4) (fun r => r = true)) :
    ∀ (d j : Nat) (pl : List Int), l.length - j ≤ d → j ≤ l.length → Pl l f.f4.length j pl → Gives (fun k => portolanlaw05_FlowOrder.l1 k (i : Int) l pl (j : Int) p f.f0 f.f1 f.f2 f.f3 f.f4) (fun r => r = true) := by
  have fin : ∀ (j : Nat) (pl : List Int), l.length ≤ j → j ≤ l.length → Pl l f.f4.length j pl → Gives (fun k => (flow_Edges.f k f.f0 f.f1 f.f2 f.f3 f.f4).bind fun t => (portolanlaw05_FlowOrder.l2 k (i : Int) pl false false t 0 p f.f0 f.f1 f.f2 f.f3 f.f4)) (fun r => r = true) := by
    intro j pl hj hj2 P
    obtain rfl : j = l.length := by omega
    refine Gives.bind (flow_edges_gives f w h40) (fun a ha => ?_)
    subst ha
    exact H pl P
  intro d
  induction d with
  | zero =>
    intro j pl hj hj2 P
    refine Gives.step (fun _ => rfl) ?_
    simp only [portolanlaw05_FlowOrder.l1]
    exact Gives.neg (by omega) (fin j pl (by omega) hj2 P)
  | succ d ih =>
    intro j pl hj hj2 P
    by_cases hlt : j < l.length
    · have hx := hr _ (List.getElem_mem hlt)
      have hlen := P.len
      have hnot : l[j] ∉ l.take j := by
        intro hm2
        obtain ⟨q, hq⟩ := List.mem_iff_getElem?.1 hm2
        have hq1 := (List.getElem?_eq_some_iff.1 hq).1
        rw [List.length_take] at hq1
        rw [List.getElem?_take, if_pos (by omega)] at hq
        obtain ⟨hq2, hq3⟩ := List.getElem?_eq_some_iff.1 hq
        have := (List.getElem_inj hn).1 hq3
        omega
      refine Gives.step (fun _ => rfl) ?_
      simp only [portolanlaw05_FlowOrder.l1]
      refine Gives.pos (by omega) (Gives.pos (by omega) ?_)
      rw [rd_at hlt, w1 (by omega)]
      refine Gives.neg (by omega) (Gives.neg (by omega) (Gives.pos (by omega) (Gives.pos (by omega) (Gives.pos (P.no _ hx.1 hnot) ?_))))
      refine ih (j + 1) _ (by omega) (by omega) ⟨by simpa using hlen, fun q x hq hqx => ?_, fun x h0 hno => ?_⟩
      · have h0 := (hr x (List.mem_of_getElem? hqx)).1
        rw [rd_set hx.1 (by omega) h0]
        split
        · rename_i e
          rw [e] at hqx
          obtain ⟨hq2, hq3⟩ := List.getElem?_eq_some_iff.1 hqx
          have := (List.getElem_inj hn).1 hq3
          omega
        · rename_i e
          refine P.yes q x ?_ hqx
          apply Classical.byContradiction
          intro hge
          have : q = j := by omega
          subst this
          rw [List.getElem?_eq_getElem hlt] at hqx
          exact e (Option.some.inj hqx).symm
      · rw [List.take_succ_eq_append_getElem hlt, List.mem_append, List.mem_singleton] at hno
        rw [rd_set hx.1 (by omega) h0, if_neg (fun e => hno (.inr e))]
        exact P.no x h0 (fun h => hno (.inl h))
    · exact ih j pl (by omega) hj2 P
theorem flowOrder_l0 (p : List S30) (wp : WP p) (ok : OkProg p) : ∀ (d i : Nat), p.length - i ≤ d → Gives (fun k => portolanlaw05_FlowOrder.l0 k (i : Int) p) (fun r => r = true) := by
  have hp := wp.n
  intro d
  induction d with
  | zero =>
    intro i hi
    refine Gives.step (fun _ => rfl) ?_
    simp only [portolanlaw05_FlowOrder.l0]
    exact Gives.neg (by omega) (Gives.now rfl)
  | succ d ih =>
    intro i hi
    by_cases hlt : i < p.length
    · have w := wp.w _ (List.getElem_mem hlt)
      have ofn := ok.fn _ (List.getElem_mem hlt)
      have h40 := ofn.hi
      have h1 := ofn.lo
      obtain ⟨o, hl⟩ := order_ord p[i].f4 (by omega)
      have hs : (H.sortL (orderL p[i].f4)).length = (orderL p[i].f4).length := List.length_mergeSort _
      have hd := o.hd
      obtain ⟨h0, hd0⟩ := List.getElem?_eq_some_iff.1 hd
      have he := edgesTo_len p[i].f4 p[i].f4.length
      refine Gives.step (fun _ => rfl) ?_
      simp only [portolanlaw05_FlowOrder.l0]
      refine Gives.pos (by omega) (Gives.pos (by omega) ?_)
      rw [rdS30_at hlt, order_is _ w (by omega) (by omega), reach_is _ w (by omega) (by omega)]
      refine Gives.some_bind (Gives.some_bind (Gives.pos (by omega) (Gives.neg (by omega) (Gives.pos (by omega) ?_))))
      refine Gives.step (fun _ => rfl) ?_
      simp only [portolanlaw05_FlowOrder.j1]
      have e0 : rd (orderL p[i].f4) 0 = 0 := by
        have := rd_at h0
        rw [hd0] at this
        exact this
      refine Gives.neg (by simp [e0]) (Gives.pos (by omega) (Gives.pos (by omega) ?_))
      rw [Int.toNat_natCast]
      refine flowOrder_l1 p p[i] w i _ (by omega) o.nod (fun x hx => o.rng x hx) (by omega) (fun pl P => ?_) _ 0 _ (Nat.le_refl _) (Nat.zero_le _) (Pl.start _ _)
      refine flowOrder_l2 p p[i] w i _ pl o P (fun a b h => okp_tgt ok (List.getElem_mem hlt) h) _ (by omega) (fun e he2 => mem_edgesTo.1 he2) ?_ _ 0 false false (Nat.le_refl _) (by simp)
      rw [w1 (by omega)]
      exact ih (i + 1) (by omega)
    · exact ih i (by omega)
theorem FlowOrder (p : List S30) (wp : WP p) : ∃ k, portolanlaw05_FlowOrder.f k p = some true := by
  have h : Gives (fun k => portolanlaw05_FlowOrder.f k p) (fun r => r = true) := by
    unfold portolanlaw05_FlowOrder.f
    refine Gives.bind alive_gives (fun a ha => Gives.pos ha (Gives.bind (out_gives p wp) (fun c hc => ?_)))
    refine Gives.ite (fun _ => Gives.now rfl) (fun h => ?_)
    exact flowOrder_l0 p wp (hc (by simpa using h)) _ 0 (Nat.le_refl _)
  obtain ⟨r, k, e, rfl⟩ := h.rounds
  exact ⟨k, e⟩
end Go.Proofs.Ytcknmcfomkbenaa.Pure
