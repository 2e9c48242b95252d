/- Plain lemmas on a walk through a graph: no program. -/
import Derived.Test.YtcknmcfomkbenaaWZ
import Derived.Test.YtcknmcfomkbenaaPC
namespace Go.Proofs.Ytcknmcfomkbenaa.D
open Go.RowKit Go.Proofs.YtcknmcfomkbenaaW.PrintWords Go.Proofs.YtcknmcfomkbenaaW.PrintLast Go.Proofs.YtcknmcfomkbenaaW.PrintMore
def M (m : List Bool) (b : Int) : Prop := 0 ≤ b ∧ m[b.toNat]? = some true
theorem M_lt {m : List Bool} {b : Int} (h : M m b) : b < (m.length : Int) := by
  have := (List.getElem?_eq_some_iff.1 h.2).1
  have := h.1
  omega
theorem M_rd {m : List Bool} {b : Int} (h0 : 0 ≤ b) : rdOf false m b = true ↔ M m b := by
  unfold rdOf M
  rw [List.getD_eq_getElem?_getD]
  cases h : m[b.toNat]? <;> simp [h0]
theorem M_set {m : List Bool} {b i : Int} (h0 : 0 ≤ b) (h1 : b < (m.length : Int)) : M (m.set b.toNat true) i ↔ M m i ∨ i = b := by
  unfold M
  by_cases h : b = i
  · subst h
    rw [List.getElem?_set_self (by omega)]
    simp [h0]
  · constructor
    · rintro ⟨h2, h3⟩
      rw [List.getElem?_set_ne (by omega)] at h3
      exact .inl ⟨h2, h3⟩
    · rintro (⟨h2, h3⟩ | h2)
      · refine ⟨h2, ?_⟩
        rw [List.getElem?_set_ne (by omega)]
        exact h3
      · exact absurd h2.symm h
theorem M_rep {n : Nat} {i : Int} : ¬ M (List.replicate n false) i := by
  rintro ⟨_, h⟩
  obtain ⟨_, h2⟩ := List.getElem?_eq_some_iff.1 h
  simp at h2
inductive Path (nx : Int → List Int) (n : Int) (a : Int) : Int → Prop
  | refl : Path nx n a a
  | step {b c : Int} : Path nx n a b → c ∈ nx b → 0 ≤ c → c < n → Path nx n a c
theorem Path.trans {nx : Int → List Int} {n a b c : Int} (h : Path nx n a b) (k : Path nx n b c) : Path nx n a c := by
  induction k with
  | refl => exact h
  | step _ e h0 h1 ih => exact .step ih e h0 h1
theorem Path.edge {nx : Int → List Int} {n a b : Int} (e : b ∈ nx a) (h0 : 0 ≤ b) (h1 : b < n) : Path nx n a b := .step .refl e h0 h1
def Bef (l : List Int) (j i : Int) : Prop := ∃ u v, l = u ++ i :: v ∧ j ∈ u
theorem Bef.more {l : List Int} {j i : Int} (h : Bef l j i) (d : List Int) : Bef (l ++ d) j i := by
  obtain ⟨u, v, rfl, hj⟩ := h
  exact ⟨u, v ++ d, by simp, hj⟩
theorem Bef.last {l : List Int} {j b : Int} (h : j ∈ l) : Bef (l ++ [b]) j b := ⟨l, [], rfl, h⟩
theorem Bef.lead {l : List Int} {j i : Int} (h : Bef l j i) (d : List Int) : Bef (d ++ l) j i := by
  obtain ⟨u, v, rfl, hj⟩ := h
  exact ⟨d ++ u, v, by simp, List.mem_append.2 (.inr hj)⟩
structure Gr (nx : Int → List Int) (roots : List Int) (s s' : List Bool × List Int) (d : List Int) : Prop where
  len : s'.1.length = s.1.length
  app : s'.2 = s.2 ++ d
  new : ∀ i, M s'.1 i ↔ M s.1 i ∨ i ∈ d
  old : ∀ i ∈ d, ¬ M s.1 i
  nod : d.Nodup
  clo : ∀ i ∈ d, ∀ j ∈ nx i, 0 ≤ j → j < (s.1.length : Int) → M s'.1 j
  par : ∀ i ∈ d, i ∈ roots ∨ ∃ a, i ∈ nx a ∧ Bef d i a
  rch : ∀ i ∈ d, ∃ c ∈ roots, c ∈ d ∧ Path nx s.1.length c i
  rts : ∀ c ∈ roots, 0 ≤ c → c < (s.1.length : Int) → M s'.1 c
  bck : (∀ t, M s.1 t → t ∉ s.2 → ∀ c ∈ roots, 0 ≤ c → c < (s.1.length : Int) → Path nx s.1.length t c) → ∀ i ∈ d, ∀ j ∈ nx i, 0 ≤ j → j < (s.1.length : Int) → Bef s'.2 j i ∨ Path nx s.1.length j i
theorem Gr.none {nx : Int → List Int} {roots : List Int} {s : List Bool × List Int} (h : ∀ c ∈ roots, 0 ≤ c → c < (s.1.length : Int) → M s.1 c) : Gr nx roots s s [] :=
  ⟨rfl, by simp, by simp, by simp, List.nodup_nil, by simp, by simp, by simp, h, by simp⟩
theorem Gr.trans {nx : Int → List Int} {r1 r2 : List Int} {s s1 s2 : List Bool × List Int} {d1 d2 : List Int} (h : Gr nx r1 s s1 d1) (k : Gr nx r2 s1 s2 d2) : Gr nx (r1 ++ r2) s s2 (d1 ++ d2) := by
  have hl : (s1.1.length : Int) = s.1.length := by rw [h.len]
  refine ⟨k.len.trans h.len, by rw [k.app, h.app, List.append_assoc], fun i => ?_, fun i hi => ?_, ?_, fun i hi j hj h0 h1 => ?_, fun i hi => ?_, fun i hi => ?_, fun c hc h0 h1 => ?_, fun hs i hi j hj h0 h1 => ?_⟩
  · rw [k.new, h.new, List.mem_append, or_assoc]
  · rcases List.mem_append.1 hi with hi | hi
    · exact h.old i hi
    · exact fun hm => k.old i hi ((h.new i).2 (.inl hm))
  · refine List.nodup_append.2 ⟨h.nod, k.nod, fun a ha b hb e => ?_⟩
    subst e
    exact k.old a hb ((h.new a).2 (.inr ha))
  · rcases List.mem_append.1 hi with hi | hi
    · exact (k.new j).2 (.inl (h.clo i hi j hj h0 h1))
    · exact k.clo i hi j hj h0 (by omega)
  · rcases List.mem_append.1 hi with hi | hi
    · rcases h.par i hi with h2 | ⟨a, h2, h3⟩
      · exact .inl (List.mem_append.2 (.inl h2))
      · exact .inr ⟨a, h2, h3.more _⟩
    · rcases k.par i hi with h2 | ⟨a, h2, h3⟩
      · exact .inl (List.mem_append.2 (.inr h2))
      · exact .inr ⟨a, h2, h3.lead _⟩
  · rcases List.mem_append.1 hi with hi | hi
    · obtain ⟨c, hc, hd, hp⟩ := h.rch i hi
      exact ⟨c, List.mem_append.2 (.inl hc), List.mem_append.2 (.inl hd), hp⟩
    · obtain ⟨c, hc, hd, hp⟩ := k.rch i hi
      exact ⟨c, List.mem_append.2 (.inr hc), List.mem_append.2 (.inr hd), hl ▸ hp⟩
  · rcases List.mem_append.1 hc with hc | hc
    · exact (k.new c).2 (.inl (h.rts c hc h0 h1))
    · exact k.rts c hc h0 (by omega)
  · rcases List.mem_append.1 hi with hi | hi
    · rcases h.bck (fun t ht hn c hc => hs t ht hn c (List.mem_append.2 (.inl hc))) i hi j hj h0 h1 with h2 | h2
      · rw [k.app]
        exact .inl (h2.more _)
      · exact .inr h2
    · have := k.bck (fun t ht hn c hc h0 h1 => by
        rcases (h.new t).1 ht with h2 | h2
        · exact hl ▸ hs t h2 (fun h3 => hn (by rw [h.app]; exact List.mem_append.2 (.inl h3))) c (List.mem_append.2 (.inr hc)) h0 (by omega)
        · exact absurd (by rw [h.app]; exact List.mem_append.2 (.inr h2)) hn) i hi j hj h0 (by omega)
      rwa [hl] at this
def walkF (nx : Int → List Int) : Nat → List Bool × List Int → Int → Option (List Bool × List Int)
  | 0, _, _ => none
  | k + 1, (m, l), b => if b < 0 then some (m, l) else if b ≥ (m.length : Int) then some (m, l) else if rdOf false m b = true then some (m, l) else
      ((nx b).foldlM (walkF nx k) (m.set b.toNat true, l)).map fun s => (s.1, s.2 ++ [b])
theorem fold_gr {nx : Int → List Int} {f : List Bool × List Int → Int → Option (List Bool × List Int)} (hf : ∀ s c s', f s c = some s' → ∃ d, Gr nx [c] s s' d) : ∀ (r : List Int) (s s' : List Bool × List Int), r.foldlM f s = some s' → ∃ d, Gr nx r s s' d
  | [], s, s', h => by
    obtain rfl := Option.some.inj h
    exact ⟨[], Gr.none (by simp)⟩
  | c :: r, s, s', h => by
    rw [List.foldlM_cons] at h
    cases h1 : f s c with
    | none => rw [h1] at h; cases h
    | some t =>
      rw [h1] at h
      obtain ⟨d1, g1⟩ := hf s c t h1
      obtain ⟨d2, g2⟩ := fold_gr hf r t s' h
      exact ⟨d1 ++ d2, g1.trans g2⟩
theorem walkF_gr (nx : Int → List Int) : ∀ (k : Nat) (s : List Bool × List Int) (b : Int) (s' : List Bool × List Int), walkF nx k s b = some s' → ∃ d, Gr nx [b] s s' d
  | 0, _, _, _, h => by cases h
  | k + 1, (m, l), b, s', h => by
    unfold walkF at h
    by_cases h0 : b < 0
    · rw [if_pos h0] at h; obtain rfl := Option.some.inj h
      exact ⟨[], Gr.none (fun c hc h1 => by rw [List.mem_singleton.1 hc] at h1; omega)⟩
    rw [if_neg h0] at h
    by_cases h1 : b ≥ (m.length : Int)
    · rw [if_pos h1] at h; obtain rfl := Option.some.inj h
      exact ⟨[], Gr.none (fun c hc h2 h3 => by rw [List.mem_singleton.1 hc] at h3; simp only at h3; omega)⟩
    rw [if_neg h1] at h
    by_cases h2 : rdOf false m b = true
    · rw [if_pos h2] at h; obtain rfl := Option.some.inj h
      exact ⟨[], Gr.none (fun c hc _ _ => by rw [List.mem_singleton.1 hc]; exact (M_rd (by omega)).1 h2)⟩
    rw [if_neg h2] at h
    obtain ⟨t, ht, rfl⟩ := Option.map_eq_some_iff.1 h
    obtain ⟨d, g⟩ := fold_gr (walkF_gr nx k) _ _ _ ht
    have hb : ¬ M m b := fun hm => h2 ((M_rd (by omega)).2 hm)
    have hset : ∀ i, M (m.set b.toNat true) i ↔ M m i ∨ i = b := fun i => M_set (by omega) (by omega)
    have hlen : ((m.set b.toNat true, l).1.length : Int) = m.length := by simp
    have hbd : b ∉ d := fun hm => g.old b hm ((hset b).2 (.inr rfl))
    have hrange : ∀ i, M t.1 i → 0 ≤ i ∧ i < (m.length : Int) := fun i hi => ⟨hi.1, by have := M_lt hi; rw [g.len] at this; omega⟩
    refine ⟨d ++ [b], ⟨g.len.trans (by simp), by simp [g.app], fun i => ?_, fun i hi => ?_, ?_, fun i hi j hj j0 j1 => ?_, fun i hi => ?_, fun i hi => ?_, fun c hc _ _ => ?_, fun hs i hi j hj j0 j1 => ?_⟩⟩
    · have := g.new i
      rw [hset i] at this
      rw [this]
      simp only [List.mem_append, List.mem_singleton]
      constructor
      · rintro ((a | a) | a)
        · exact .inl a
        · exact .inr (.inr a)
        · exact .inr (.inl a)
      · rintro (a | a | a)
        · exact .inl (.inl a)
        · exact .inr a
        · exact .inl (.inr a)
    · rcases List.mem_append.1 hi with hi | hi
      · exact fun hm => g.old i hi ((hset i).2 (.inl hm))
      · rw [List.mem_singleton.1 hi]; exact hb
    · exact List.nodup_append.2 ⟨g.nod, by simp, fun a ha c hc e => hbd (by rw [← List.mem_singleton.1 hc, ← e]; exact ha)⟩
    · rcases List.mem_append.1 hi with hi | hi
      · exact g.clo i hi j hj j0 (by rw [hlen]; exact j1)
      · rw [List.mem_singleton.1 hi] at hj
        exact g.rts j hj j0 (by rw [hlen]; exact j1)
    · rcases List.mem_append.1 hi with hi | hi
      · rcases g.par i hi with h3 | ⟨a, h3, h4⟩
        · exact .inr ⟨b, h3, Bef.last hi⟩
        · exact .inr ⟨a, h3, h4.more _⟩
      · exact .inl hi
    · rcases List.mem_append.1 hi with hi | hi
      · obtain ⟨c, hc, hcd, hp⟩ := g.rch i hi
        rw [hlen] at hp
        obtain ⟨c0, c1⟩ := hrange c ((g.new c).2 (.inr hcd))
        exact ⟨b, by simp, by simp, (Path.edge hc c0 c1).trans hp⟩
      · rw [List.mem_singleton.1 hi]
        exact ⟨b, by simp, by simp, .refl⟩
    · rw [List.mem_singleton.1 hc]
      exact (g.new b).2 (.inl ((hset b).2 (.inr rfl)))
    · rcases List.mem_append.1 hi with hi | hi
      · have := g.bck (fun t2 ht2 hn c hc c0 c1 => by
          rw [hlen] at c1 ⊢
          rcases (hset t2).1 ht2 with h3 | h3
          · exact (hs t2 h3 hn b (by simp) (by omega) (by simp only; omega)).trans (Path.edge hc c0 c1)
          · rw [h3]; exact Path.edge hc c0 c1) i hi j hj j0 (by rw [hlen]; exact j1)
        rw [hlen] at this
        rcases this with h3 | h3
        · exact .inl (h3.more _)
        · exact .inr h3
      · have hib := List.mem_singleton.1 hi
        subst hib
        have hm := g.rts j hj j0 (by rw [hlen]; exact j1)
        by_cases hj2 : j ∈ t.2
        · exact .inl (Bef.last hj2)
        · right
          rcases (g.new j).1 hm with h3 | h3
          · rcases (hset j).1 h3 with h4 | h4
            · exact hs j h4 (fun h5 => hj2 (by rw [g.app]; exact List.mem_append.2 (.inl h5))) i (by simp) (by omega) (by simp only; omega)
            · rw [h4]; exact .refl
          · exact absurd (by rw [g.app]; exact List.mem_append.2 (.inr h3)) hj2
open Go.Proofs.Ytcknmcfomkbenaa.PC in
theorem Gr.cnt {nx : Int → List Int} {r : List Int} {s s' : List Bool × List Int} {d : List Int} (g : Gr nx r s s' d) : cnt s.1 ≤ cnt s'.1 :=
  cnt_mono g.len (fun i hi => ((g.new (i : Int)).2 (.inl ⟨by omega, by rw [Int.toNat_natCast]; exact hi⟩)).2 |> fun h => by rwa [Int.toNat_natCast] at h)
open Go.Proofs.Ytcknmcfomkbenaa.PC in
theorem walkF_some (nx : Int → List Int) : ∀ (k : Nat) (s : List Bool × List Int) (b : Int), s.1.length - cnt s.1 < k → ∃ s', walkF nx k s b = some s'
  | 0, _, _, h => by omega
  | k + 1, (m, l), b, h => by
    unfold walkF
    by_cases h0 : b < 0
    · rw [if_pos h0]; exact ⟨_, rfl⟩
    rw [if_neg h0]
    by_cases h1 : b ≥ (m.length : Int)
    · rw [if_pos h1]; exact ⟨_, rfl⟩
    rw [if_neg h1]
    by_cases h2 : rdOf false m b = true
    · rw [if_pos h2]; exact ⟨_, rfl⟩
    rw [if_neg h2]
    have hb : b.toNat < m.length := by omega
    have hc : cnt m < cnt (m.set b.toNat true) := cnt_lt (by simp) (fun i hi => (mk_set hb).2 (.inl hi)) ⟨b.toNat, (mk_set hb).2 (.inr rfl), fun hm => h2 ((M_rd (by omega)).2 ⟨by omega, hm⟩)⟩
    have hle := cnt_le (m.set b.toNat true)
    rw [List.length_set] at hle
    have key : ∀ (r : List Int) (s : List Bool × List Int), s.1.length = m.length → cnt (m.set b.toNat true) ≤ cnt s.1 → ∃ s', r.foldlM (walkF nx k) s = some s' := by
      intro r
      induction r with
      | nil => intro s _ _; exact ⟨s, rfl⟩
      | cons c r ih =>
        intro s hs hcs
        simp only at h
        obtain ⟨s1, e1⟩ := walkF_some nx k s c (by omega)
        obtain ⟨d, g⟩ := walkF_gr nx k s c s1 e1
        have := g.cnt
        obtain ⟨s2, e2⟩ := ih s1 (g.len.trans hs) (by omega)
        refine ⟨s2, ?_⟩
        rw [List.foldlM_cons, e1]
        exact e2
    obtain ⟨s', e⟩ := key (nx b) (m.set b.toNat true, l) (by simp) (Nat.le_refl _)
    rw [e]
    exact ⟨_, rfl⟩
end Go.Proofs.Ytcknmcfomkbenaa.D
