/- slices.Sort over any row of ints that is one's own sorts it in place: for rows of fewer than 2^62 parts. -/
import Derived.Test.YtcknmcfomkbenaaWZ
import Derived.Test.YtcknmcfomkbenaaS
import Derived.Sort.OwnSortedInts
namespace Go.Proofs.Ytcknmcfomkbenaa.H
open Go.RowKit Go.Proofs.YtcknmcfomkbenaaW.PrintWords Go.Proofs.YtcknmcfomkbenaaW.PrintLast Go.Proofs.YtcknmcfomkbenaaW.PrintMore
def sortL (l : List Int) : List Int := l.mergeSort fun x y => decide (x ≤ y)
theorem sort_any (P0_ : Nat → Prop) (u : Value) (l : List Int) (w0 w : World) (hB : Below w0.heap.size w0 w) (ho0 : Kd.R (Kd.int .i64) 3 w w0.heap.size P0_ u l) (hl : l.length < 4611686018427387904) :
    Calls Try.prog 89 #[u] w fun e w' => e = .returned (.tuple #[]) ∧ Kd.R (Kd.int .i64) 3 w' w0.heap.size (fun k_ => (P0_ k_ ∨ w.heap.size ≤ k_)) u (sortL l) ∧ Below w0.heap.size w0 w' ∧ Kept w w' (fun k_ => P0_ k_) := by
  have hlen : (sortL l).length = l.length := List.length_mergeSort _
  obtain ⟨hok, inner, hown, hr⟩ := ho0
  rcases hown.2 with ⟨rfl, hn⟩ | ⟨g, cap, cur, rfl, hg, hb, h1, h2, h3, h4⟩
  · obtain rfl : l = [] := List.length_eq_zero_iff.1 hn
    refine (Try.slices_Sort_int_none none 0 w).mono ?_
    rintro e w' ⟨rfl, rfl⟩
    have : sortL [] = [] := by simp [sortL]
    rw [this]
    exact ⟨rfl, Kd.R_nil _ _ _ _ _, hB, Kept.refl _ _⟩
  · have hin : inner = l.map (Value.int .i64) := by
      refine List.ext_getElem? fun j => ?_
      by_cases hj : j < l.length
      · have h5 : (inner.drop (j * 1)).take 1 = [Value.int .i64 l[j]] := hr.2 j _ (List.getElem?_eq_getElem hj)
        have h6 : ((inner.drop (j * 1)).take 1)[0]? = inner[j]? := by
          rw [List.getElem?_take, if_pos (by omega), List.getElem?_drop]
          simp
        rw [← h6, h5]
        simp [hj]
      · rw [List.getElem?_eq_none (by have := hr.1; simp only [show (Kd.int IntKind.i64).sz = 1 from rfl] at this; omega), List.getElem?_eq_none (by simp; omega)]
    have h4' : cur.toList.take l.length = l.map (Value.int .i64) := by
      rw [← hin, ← h4]
      simp [show (Kd.int IntKind.i64).sz = 1 from rfl]
    have hlt : g < w.heap.size := (Array.getElem?_eq_some_iff.1 hb).1
    refine (Try.slices_Sort_int g 0 cap l w (holds_of_blockI hb h4') hlt hl).mono ?_
    rintro e w' ⟨rfl, n, os, rfl⟩
    have hgr := grownBy_sortedI (w := w) (g := g) (n := n) (os := os) (sortL l).toArray
    have ho := ownsRow_sortedI (w := w) (base := w0.heap.size) (g := g) (cap := cap) (n := n) (e := 3) (os := os) (cur := cur) (ss := l) (ts := sortL l) hlen hg hb h1 h2 (by simpa [show (Kd.int IntKind.i64).sz = 1 from rfl] using h3)
    refine ⟨rfl, ⟨fun k hk => .inl (hok k hk), (sortL l).map (Value.int .i64), ?_, ?_⟩, hB.grown hgr hB.size (fun k hk => by injection hk with hk; omega), ⟨hgr.size, fun i hi hn => hgr.block i hi (fun he => hn (hok i (by rw [he]; rfl)))⟩⟩
    · have ho' := ho
      rw [← hlen] at ho'
      have e1 : Value.slice (some ⟨g, 0, none⟩) (sortL l).length cap = Value.slice (some ⟨g, 0, none⟩) l.length cap := by rw [hlen]
      rw [e1] at ho'
      exact ho'
    · refine ⟨by simp [show (Kd.int IntKind.i64).sz = 1 from rfl], fun j p hj => ?_⟩
      show ((List.map (Value.int .i64) (sortL l)).drop (j * 1)).take 1 = [Value.int .i64 p]
      obtain ⟨hj1, rfl⟩ := List.getElem?_eq_some_iff.1 hj
      rw [Nat.mul_one, List.drop_eq_getElem_cons (by simpa using hj1)]
      simp
end Go.Proofs.Ytcknmcfomkbenaa.H
