/- What is known of the order of a walk, and of what is reached. -/
import Derived.Test.YtcknmcfomkbenaaPFx0
import Derived.Test.YtcknmcfomkbenaaPFx3
import Derived.Test.YtcknmcfomkbenaaHe
import Derived.Test.YtcknmcfomkbenaaPN
namespace Go.Proofs.Ytcknmcfomkbenaa.Pure
open Go.RowKit Go.Proofs.YtcknmcfomkbenaaW.PrintWords Go.Proofs.YtcknmcfomkbenaaW.PrintLast Go.Proofs.YtcknmcfomkbenaaW.PrintMore Go.Proofs.Ytcknmcfomkbenaa.PF Go.Proofs.Ytcknmcfomkbenaa.E Go.Proofs.Ytcknmcfomkbenaa.D
set_option linter.unusedVariables false
theorem okp_tgt {p : List S30} (ok : OkProg p) {f : S30} (hf : f ∈ p) {a b : Int} (h : b ∈ nxt f.f4 a) : 1 ≤ b ∧ b < (f.f4.length : Int) := by
  by_cases h0 : 0 ≤ a ∧ a < (f.f4.length : Int)
  · have ha : a.toNat < f.f4.length := by omega
    have h1 := nxt_at ha
    rw [Int.toNat_of_nonneg h0.1] at h1
    rw [h1] at h
    split at h
    · cases h
    · rename_i hl
      have hc : f.f4[a.toNat].f0.length - 1 < f.f4[a.toNat].f0.length := by omega
      have e : rd_T52 f.f4[a.toNat].f0 ((f.f4[a.toNat].f0.length : Int) - 1) = f.f4[a.toNat].f0[f.f4[a.toNat].f0.length - 1] := by
        rw [← rdS52_at hc]
        congr 1
        omega
      rw [e] at h
      exact (ok.ins f hf _ (List.getElem_mem ha) _ (List.getElem_mem hc)).next b h
  · rw [nxt_out h0] at h
    cases h
theorem Bef.rev {l : List Int} {j i : Int} (h : Bef l j i) : Bef l.reverse i j := by
  obtain ⟨u, v, rfl, hj⟩ := h
  obtain ⟨u1, u2, rfl⟩ := List.append_of_mem hj
  exact ⟨v.reverse ++ i :: u2.reverse, u1.reverse, by simp, by simp⟩
theorem Bef.mem {l : List Int} {j i : Int} (h : Bef l j i) : j ∈ l ∧ i ∈ l := by
  obtain ⟨u, v, rfl, hj⟩ := h
  exact ⟨List.mem_append.2 (.inl hj), by simp⟩
structure Ord (nx : Int → List Int) (n : Nat) (l : List Int) : Prop where
  hd : l[0]? = some 0
  nod : l.Nodup
  rng : ∀ x ∈ l, 0 ≤ x ∧ x < (n : Int)
  mem : ∀ x, x ∈ l ↔ Path nx n 0 x
  par : ∀ b ∈ l, b ≠ 0 → ∃ a, b ∈ nx a ∧ Bef l a b
  bck : ∀ a ∈ l, ∀ b ∈ nx a, 0 ≤ b → b < (n : Int) → Bef l a b ∨ Path nx n b a
theorem order_ord (f4 : List S50) (h1 : 0 < f4.length) : Ord (nxt f4) f4.length (orderL f4) ∧ (orderL f4).length ≤ f4.length := by
  obtain ⟨s, hs, g, hl⟩ := walk_all (nxt f4) f4.length
  have e : orderL f4 = s.2.reverse := by
    unfold orderL
    rw [hs]
    rfl
  have hm : ∀ x, M s.1 x ↔ x ∈ s.2 := by
    intro x
    rw [g.new x]
    exact ⟨fun h => h.resolve_left M_rep, .inr⟩
  have hlen : (List.replicate f4.length false).length = f4.length := List.length_replicate
  have hrng : ∀ x ∈ s.2, 0 ≤ x ∧ x < (f4.length : Int) := by
    intro x hx
    have h2 := (hm x).2 hx
    have h3 := M_lt h2
    rw [g.len] at h3
    simp only [List.length_replicate] at h3
    exact ⟨h2.1, h3⟩
  have h0 : (0 : Int) ∈ s.2 := (hm 0).1 (g.rts 0 (by simp) (by omega) (by simp only [List.length_replicate]; omega))
  rw [e]
  refine ⟨⟨?_, (List.reverse_perm _).nodup_iff.2 g.nod, fun x hx => hrng x (List.mem_reverse.1 hx), fun x => ⟨fun hx => ?_, fun hx => ?_⟩, fun b hb hne => ?_, fun a ha b hb b0 b1 => ?_⟩, by rw [List.length_reverse]; exact hl⟩
  · -- the last one that was left is 0
    cases hr : s.2.reverse with
    | nil =>
      have : s.2 = [] := by simpa using hr
      rw [this] at h0
      cases h0
    | cons x r =>
      have hx : x ∈ s.2 := List.mem_reverse.1 (by rw [hr]; simp)
      rcases g.par x hx with h2 | ⟨a, h2, h3⟩
      · rw [List.mem_singleton.1 h2]; rfl
      · exfalso
        have h4 := (Bef.rev h3)
        rw [hr] at h4
        obtain ⟨u, v, h5, h6⟩ := h4
        have hn : (x :: r).Nodup := by rw [← hr]; exact (List.reverse_perm _).nodup_iff.2 g.nod
        cases u with
        | nil => cases h6
        | cons y u =>
          injection h5 with h7 h8
          rw [h8] at hn
          exact (List.nodup_cons.1 hn).1 (by simp)
  · obtain ⟨c, hc, _, hp⟩ := g.rch x (List.mem_reverse.1 hx)
    rw [List.mem_singleton.1 hc] at hp
    simpa using hp
  · rw [List.mem_reverse]
    induction hx with
    | refl => exact h0
    | step _ hb b0 b1 ih => exact (hm _).1 (g.clo _ ih _ hb b0 (by simp only [List.length_replicate]; exact b1))
  · rcases g.par b (List.mem_reverse.1 hb) with h2 | ⟨a, h2, h3⟩
    · exact absurd (List.mem_singleton.1 h2) hne
    · exact ⟨a, h2, (Bef.rev h3)⟩
  · rcases g.bck (fun t ht => absurd ht M_rep) a (List.mem_reverse.1 ha) b hb b0 (by simp only [List.length_replicate]; exact b1) with h2 | h2
    · exact .inl (Bef.rev h2)
    · right
      simpa using h2
end Go.Proofs.Ytcknmcfomkbenaa.Pure
