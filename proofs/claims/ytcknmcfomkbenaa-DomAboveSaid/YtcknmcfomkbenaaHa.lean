/- shape.Next answers the blocks that an instruction names, rising, each once: for any instruction. -/
import Derived.Test.YtcknmcfomkbenaaPFx0
import Derived.Test.YtcknmcfomkbenaaHS
import Derived.Lib.Walk
import Derived.Lib.SliceRun
import Derived.Deep.LoopGhost
import Derived.Outline
import Derived.Laws.EntriesVeiled
namespace Go.Proofs.Ytcknmcfomkbenaa.H
open Go.RowKit Go.Lib Go.Sort Go.Proofs.YtcknmcfomkbenaaW.PrintWords Go.Proofs.YtcknmcfomkbenaaW.PrintLast Go.Proofs.YtcknmcfomkbenaaW.PrintMore
theorem compact_len (l : List Int) : (Lib.compact l).length ≤ l.length := by
  unfold Lib.compact Lib.compactUpTo
  rw [List.length_map]
  exact Nat.le_trans (List.length_filter_le _ _) (by simp)
theorem grow_none (w : World) : grow w #[] = w := by simp [grow]
theorem compact_any (P0_ : Nat → Prop) (u : Value) (l : List Int) (w0 w : World) (hB : Below w0.heap.size w0 w) (ho0 : Kd.R (Kd.int .i64) 3 w w0.heap.size P0_ u l) (hl : l.length ≤ 9223372036854775807) :
    Calls Try.prog 90 #[u] w fun e w' => ∃ v, e = .returned v ∧ Kd.R (Kd.int .i64) 3 w' w0.heap.size (fun k_ => (P0_ k_ ∨ w.heap.size ≤ k_)) v (Lib.compact l) ∧ Below w0.heap.size w0 w' := by
  obtain ⟨hok, inner, hown, hr⟩ := ho0
  rcases hown.2 with ⟨rfl, hn⟩ | ⟨g, cap, cur, rfl, hg, hb, h1, h2, h3, h4⟩
  · obtain rfl : l = [] := List.length_eq_zero_iff.1 hn
    refine (Try.slices_Compact_int_empty none 0 w).mono ?_
    rintro e w' ⟨rfl, rfl⟩
    have : Lib.compact ([] : List Int) = [] := rfl
    rw [this]
    exact ⟨_, rfl, Kd.R_nil _ _ _ _ _, hB⟩
  · have hin : inner = l.map (Value.int .i64) := by
      refine List.ext_getElem? fun j => ?_
      by_cases hj : j < l.length
      · have h5 : (inner.drop (j * 1)).take 1 = [Value.int .i64 l[j]] := hr.2 j _ (List.getElem?_eq_getElem hj)
        have h6 : ((inner.drop (j * 1)).take 1)[0]? = inner[j]? := by
          rw [List.getElem?_take, if_pos (by omega), List.getElem?_drop]
          simp
        rw [← h6, h5]
        simp [hj]
      · rw [List.getElem?_eq_none (by have := hr.1; simp only [show (Kd.int IntKind.i64).sz = 1 from rfl] at this; omega), List.getElem?_eq_none (by simp; omega)]
    have h4' : cur.toList.take l.length = l.map (Value.int .i64) := by
      rw [← hin, ← h4]
      simp [show (Kd.int IntKind.i64).sz = 1 from rfl]
    have h3' : cur.size = cap * 1 := by simpa [show (Kd.int IntKind.i64).sz = 1 from rfl] using h3
    have hlt : g < w.heap.size := (Array.getElem?_eq_some_iff.1 hb).1
    refine (Try.slices_Compact_int g 0 cap l w (holds_of_blockI hb h4') hl h1).mono ?_
    rintro e w' ⟨rfl, n, rfl⟩
    have hcl := compact_len l
    have hgr := grownBy_sortedI (w := w) (g := g) (n := n) (os := #[]) (Lib.compact l ++ List.replicate (l.length - (Lib.compact l).length) 0).toArray
    have hhp := heap_sortedI (w := w) (g := g) (n := n) (os := #[]) (Lib.compact l ++ List.replicate (l.length - (Lib.compact l).length) 0).toArray hb
    rw [grow_none] at hgr hhp
    have hlen : (Lib.compact l ++ List.replicate (l.length - (Lib.compact l).length) 0).length = l.length := by simp; omega
    have htk := take_putCellsI cur (Lib.compact l ++ List.replicate (l.length - (Lib.compact l).length) 0) (by omega)
    have htk2 : (putCells (Value.int .i64) 0 (Lib.compact l ++ List.replicate (l.length - (Lib.compact l).length) 0).toArray cur).toList.take (Lib.compact l).length = (Lib.compact l).map (Value.int .i64) := by
      have := congrArg (List.take (Lib.compact l).length) htk
      rw [List.take_take, Nat.min_eq_left (by omega), List.map_append, List.take_left' (by simp)] at this
      exact this
    refine ⟨_, rfl, ⟨fun k hk => .inl (hok k hk), (Lib.compact l).map (Value.int .i64), ⟨by simp [show (Kd.int IntKind.i64).sz = 1 from rfl], .inr ⟨g, cap, _, rfl, hg, hhp, by omega, h2, by simp [putCells, h3', show (Kd.int IntKind.i64).sz = 1 from rfl], by rw [show (Lib.compact l).length * (Kd.int IntKind.i64).sz = (Lib.compact l).length from Nat.mul_one _]; exact htk2⟩⟩, ?_⟩, hB.grown hgr hB.size (fun k hk => by injection hk with hk; omega)⟩
    refine ⟨by simp [show (Kd.int IntKind.i64).sz = 1 from rfl], fun j p hj => ?_⟩
    show ((List.map (Value.int .i64) (Lib.compact l)).drop (j * 1)).take 1 = [Value.int .i64 p]
    obtain ⟨hj1, rfl⟩ := List.getElem?_eq_some_iff.1 hj
    rw [Nat.mul_one, List.drop_eq_getElem_cons (by simpa using hj1)]
    simp
theorem fresh_R {w0 w : World} (xs : List Int) (hB : Below w0.heap.size w0 w) (hm : xs.length ≤ maxLen) : Kd.R (Kd.int .i64) 3 (w.alloc (.cells (xs.map (Value.int .i64)).toArray 3)) w0.heap.size (fun _ => True) (.slice (some ⟨w.heap.size, 0, none⟩) xs.length xs.length) xs := by
  refine ⟨fun _ _ => trivial, xs.map (Value.int .i64), ⟨by simp [show (Kd.int IntKind.i64).sz = 1 from rfl], .inr ⟨w.heap.size, xs.length, (xs.map (Value.int .i64)).toArray, rfl, hB.size, heap_alloc_new _ _, Nat.le_refl _, hm, by simp [show (Kd.int IntKind.i64).sz = 1 from rfl], List.take_of_length_le (by simp [show (Kd.int IntKind.i64).sz = 1 from rfl])⟩⟩, ?_⟩
  refine ⟨by simp [show (Kd.int IntKind.i64).sz = 1 from rfl], fun j p hj => ?_⟩
  show ((List.map (Value.int .i64) xs).drop (j * 1)).take 1 = [Value.int .i64 p]
  obtain ⟨hj1, rfl⟩ := List.getElem?_eq_some_iff.1 hj
  rw [Nat.mul_one, List.drop_eq_getElem_cons (by simpa using hj1)]
  simp
theorem size_alloc (w : World) (o : Obj) : (w.alloc o).heap.size = w.heap.size + 1 := by simp
def nextL (op n m : Int) : List Int := Lib.compact (sortL (if op = 22 then [n, m] else if op = 21 then [n] else []))
theorem next57 (a0 a1 a2 a3 a4 a5 : Int) (A6 : Option Addr) (n6 c6 : Nat) (w : World) :
    Calls Try.prog 57 #[.agg #[.int .i64 a0, .int .i64 a1, .int .i64 a2, .int .i64 a3, .int .i64 a4, .int .i64 a5, .slice A6 n6 c6]] w fun e w' => ∃ v0_ : Value, e = .returned (v0_) ∧ Kd.R (Kd.int .i64) 3 w' w.heap.size (fun _ => True) v0_ (nextL a0 a4 a5) ∧ Below w.heap.size w w' := by
  go_enter Try.func57, Try.ntmps57
  go_wp2_with fail
  · have hc : (a0 == 22) = true := by assumption
    have hB := (Below.refl w.heap.size w).alloc (Nat.le_refl _) (.cells #[Value.int .i64 a0, Value.int .i64 a1, Value.int .i64 a2, Value.int .i64 a3, Value.int .i64 a4, Value.int .i64 a5, Value.slice A6 n6 c6] 52)
    have hR := fresh_R (w0 := w) [a4, a5] hB (show 2 ≤ maxLen by decide)
    rw [size_alloc] at hR
    refine (sort_any _ _ [a4, a5] w _ (hB.alloc hB.size _) hR (show 2 < 4611686018427387904 by decide)).mono ?_
    rintro e w' ⟨rfl, hR', hB', _⟩
    go_wp2_with fail
    refine (compact_any _ _ _ w w' hB' hR' (by rw [show (sortL [a4, a5]).length = 2 from List.length_mergeSort _]; decide)).mono ?_
    rintro e w2 ⟨v, rfl, hR2, hB2⟩
    go_wp2_with fail
    go_ret
    have e : nextL a0 a4 a5 = Lib.compact (sortL [a4, a5]) := by unfold nextL; rw [if_pos (by simpa using hc)]
    rw [e]
    exact ⟨_, rfl, Kd.R_mono hR2 (fun _ _ => trivial), hB2⟩
  · have hc : (a0 == 22) = false := by assumption
    have hc1 : (a0 == 21) = true := by assumption
    have hB := (Below.refl w.heap.size w).alloc (Nat.le_refl _) (.cells #[Value.int .i64 a0, Value.int .i64 a1, Value.int .i64 a2, Value.int .i64 a3, Value.int .i64 a4, Value.int .i64 a5, Value.slice A6 n6 c6] 52)
    have hR := fresh_R (w0 := w) [a4] hB (show 1 ≤ maxLen by decide)
    rw [size_alloc] at hR
    refine (sort_any _ _ [a4] w _ (hB.alloc hB.size _) hR (show 1 < 4611686018427387904 by decide)).mono ?_
    rintro e w' ⟨rfl, hR', hB', _⟩
    go_wp2_with fail
    refine (compact_any _ _ _ w w' hB' hR' (by rw [show (sortL [a4]).length = 1 from List.length_mergeSort _]; decide)).mono ?_
    rintro e w2 ⟨v, rfl, hR2, hB2⟩
    go_wp2_with fail
    go_ret
    have e : nextL a0 a4 a5 = Lib.compact (sortL [a4]) := by unfold nextL; rw [if_neg (by simpa using hc), if_pos (by simpa using hc1)]
    rw [e]
    exact ⟨_, rfl, Kd.R_mono hR2 (fun _ _ => trivial), hB2⟩
  · have hc : (a0 == 22) = false := by assumption
    have hc1 : (a0 == 21) = false := by assumption
    have hB := (Below.refl w.heap.size w).alloc (Nat.le_refl _) (.cells #[Value.int .i64 a0, Value.int .i64 a1, Value.int .i64 a2, Value.int .i64 a3, Value.int .i64 a4, Value.int .i64 a5, Value.slice A6 n6 c6] 52)
    have hR := Kd.R_nil (Kd.int .i64) 3 (w.alloc (.cells #[Value.int .i64 a0, Value.int .i64 a1, Value.int .i64 a2, Value.int .i64 a3, Value.int .i64 a4, Value.int .i64 a5, Value.slice A6 n6 c6] 52)) w.heap.size (fun _ => True)
    refine (sort_any _ _ [] w _ hB hR (show 0 < 4611686018427387904 by decide)).mono ?_
    rintro e w' ⟨rfl, hR', hB', _⟩
    go_wp2_with fail
    refine (compact_any _ _ _ w w' hB' hR' (by rw [show (sortL []).length = 0 from List.length_mergeSort _]; decide)).mono ?_
    rintro e w2 ⟨v, rfl, hR2, hB2⟩
    go_wp2_with fail
    go_ret
    have e : nextL a0 a4 a5 = Lib.compact (sortL []) := by unfold nextL; rw [if_neg (by simpa using hc), if_neg (by simpa using hc1)]
    rw [e]
    exact ⟨_, rfl, Kd.R_mono hR2 (fun _ _ => trivial), hB2⟩
end Go.Proofs.Ytcknmcfomkbenaa.H
