/- flow.Order answers the plain walk's list, turned round: for functions of one block or more. -/
import Derived.Test.YtcknmcfomkbenaaHb
import Derived.RegionTactic
import Derived.ChangeAlike
namespace Go.Proofs.Ytcknmcfomkbenaa.H
open Go.Proofs.Ytcknmcfomkbenaa.D Go.RowKit Go.Lib Go.Sort Go.Proofs.YtcknmcfomkbenaaW.PrintWords Go.Proofs.YtcknmcfomkbenaaW.PrintLast Go.Proofs.YtcknmcfomkbenaaW.PrintMore
theorem reverse_any (P0_ : Nat → Prop) (u : Value) (l : List Int) (w0 w : World) (hB : Below w0.heap.size w0 w) (ho0 : Kd.R (Kd.int .i64) 3 w w0.heap.size P0_ u l) (hl : l.length ≤ 9223372036854775807) :
    Calls Try.prog 64 #[u] w fun e w' => e = .returned (.tuple #[]) ∧ Kd.R (Kd.int .i64) 3 w' w0.heap.size P0_ u l.reverse ∧ Below w0.heap.size w0 w' ∧ (∀ i, some i ≠ u.ownBlock → w'.heap[i]? = w.heap[i]?) := by
  obtain ⟨hok, inner, hown, hr⟩ := ho0
  rcases hown.2 with ⟨rfl, hn⟩ | ⟨g, cap, cur, rfl, hg, hb, h1, h2, h3, h4⟩
  · obtain rfl : l = [] := List.length_eq_zero_iff.1 hn
    refine (Try.slices_Reverse_int_empty none 0 w).mono ?_
    rintro e w' ⟨rfl, rfl⟩
    exact ⟨rfl, Kd.R_nil _ _ _ _ _, hB, fun _ _ => rfl⟩
  · have hin : inner = l.map (Value.int .i64) := by
      refine List.ext_getElem? fun j => ?_
      by_cases hj : j < l.length
      · have h5 : (inner.drop (j * 1)).take 1 = [Value.int .i64 l[j]] := hr.2 j _ (List.getElem?_eq_getElem hj)
        have h6 : ((inner.drop (j * 1)).take 1)[0]? = inner[j]? := by
          rw [List.getElem?_take, if_pos (by omega), List.getElem?_drop]
          simp
        rw [← h6, h5]
        simp [hj]
      · rw [List.getElem?_eq_none (by have := hr.1; simp only [show (Kd.int IntKind.i64).sz = 1 from rfl] at this; omega), List.getElem?_eq_none (by simp; omega)]
    have h4' : cur.toList.take l.length = l.map (Value.int .i64) := by
      rw [← hin, ← h4]
      simp [show (Kd.int IntKind.i64).sz = 1 from rfl]
    refine (Try.slices_Reverse_int g 0 cap l w (holds_of_blockI hb h4') hl).mono ?_
    rintro e w' ⟨rfl, n, rfl⟩
    have hlen : l.reverse.length = l.length := List.length_reverse
    have hgr := grownBy_sortedI (w := w) (g := g) (n := n) (os := #[]) l.reverse.toArray
    have ho := ownsRow_sortedI (w := w) (base := w0.heap.size) (g := g) (cap := cap) (n := n) (e := 3) (os := #[]) (cur := cur) (ss := l) (ts := l.reverse) hlen hg hb h1 h2 (by simpa [show (Kd.int IntKind.i64).sz = 1 from rfl] using h3)
    rw [grow_none] at hgr ho
    refine ⟨rfl, ⟨hok, l.reverse.map (Value.int .i64), ?_, ?_⟩, hB.grown hgr hB.size (fun k hk => by injection hk with hk; omega), fun i hi => ?_⟩
    · have ho' := ho
      rw [← hlen] at ho'
      have e1 : Value.slice (some ⟨g, 0, none⟩) l.reverse.length cap = Value.slice (some ⟨g, 0, none⟩) l.length cap := by rw [hlen]
      rw [e1] at ho'
      exact ho'
    · refine ⟨by simp [show (Kd.int IntKind.i64).sz = 1 from rfl], fun j p hj => ?_⟩
      show ((List.map (Value.int .i64) l.reverse).drop (j * 1)).take 1 = [Value.int .i64 p]
      obtain ⟨hj1, rfl⟩ := List.getElem?_eq_some_iff.1 hj
      rw [Nat.mul_one, List.drop_eq_getElem_cons (by simpa using hj1)]
      simp
    · have : g ≠ i := fun e => hi (by rw [e]; rfl)
      simp [putRow, mapBlock, Sort.ahead, Array.getElem?_modify, this]
set_option maxRecDepth 100000 in
theorem order30 {w0 : World} {A0 A1 A4 : Option Addr} {n0 c0 n1 c1 n4 c4 : Nat} {a2 a3 : Int} (nx : Int → List Int) (hN : ∀ (w1 : World) (b : Int), Below w0.heap.size w0 w1 → Calls Try.prog 19 #[.agg #[.slice A0 n0 c0, .slice A1 n1 c1, .int .i64 a2, .int .i64 a3, .slice A4 n4 c4], .int .i64 b] w1 fun e w' => ∃ v, e = .returned v ∧ Kd.R (Kd.int .i64) 3 w' w1.heap.size (fun _ => True) v (nx b) ∧ Below w1.heap.size w1 w')
    (hn : 0 < n4) (hb : n4 ≤ 35184372088832) (k : Nat) (s' : List Bool × List Int) (hw : walkF nx k (List.replicate n4 false, []) 0 = some s') (hl : s'.2.length ≤ 8796093022208) :
    Calls Try.prog 30 #[.agg #[.slice A0 n0 c0, .slice A1 n1 c1, .int .i64 a2, .int .i64 a3, .slice A4 n4 c4]] w0 fun e w' => ∃ v0_ : Value, e = .returned (v0_) ∧ Kd.R (Kd.int .i64) 3 w' w0.heap.size (fun _ => True) v0_ s'.2.reverse ∧ Below w0.heap.size w0 w' := by
  have HN := Aside0.mk hN
  clear hN
  have i4 : (Try.prog.info? 4).map (fun i => (i.zero, i.size, i.bytes)) = some (some (.bool false), 1, 1) := by kernel_rfl
  obtain ⟨i0, hi, hz0, hz1, hz2⟩ := info_parts i4
  have hmk : ∀ W : World, (Instr.makeSlice 43 (.int .i64 (n4 : Int)) (.int .i64 (n4 : Int))).run Try.prog W = .ok (.slice (some ⟨W.heap.size, 0, none⟩) n4 n4) (W.alloc (.cells ((List.replicate n4 false).map Value.bool).toArray 4)) := by
    intro W
    have h := run_make (P := Try.prog) W 43 4 i0 (.bool false) Try.underlying43 hi hz0 .i64 .i64 (n4 : Int) (n4 : Int) (by omega) (by omega) (by rw [hz2]; omega) (by omega)
    rw [h, Int.toNat_natCast, hz1, Nat.mul_one]
    have e : madeCells (Value.bool false).cells n4 = ((List.replicate n4 false).map Value.bool).toArray := by
      apply Array.ext'
      rw [show (Value.bool false).cells = #[Value.bool false] from rfl, toList_madeCells_one]
      simp
    rw [e]
  clear hi hz0 hz1 hz2 i4
  go_enter Try.func30, Try.ntmps30
  go_wp2_with fail
  go_region
  have hS : WS w0 A0 A1 A4 n0 c0 n1 c1 n4 c4 a2 a3 (w0.heap.size + 1 + 1) (w0.heap.size + 1) (List.replicate n4 false) [] (.slice none 0 0) (((w0.alloc (.cells #[.slice A0 n0 c0, .slice A1 n1 c1, .int .i64 a2, .int .i64 a3, .slice A4 n4 c4] 30)).alloc (.cells (Array.replicate n4 (.bool false)) 4)).alloc (.cells #[.slice A0 n0 c0, .slice A1 n1 c1, .int .i64 a2, .int .i64 a3, .slice A4 n4 c4, .slice (some ⟨w0.heap.size + 1, 0, none⟩) n4 n4, .slice none 0 0] 76)).drew := by
    refine ⟨?_, by omega, by omega, by omega, ?_, ?_, Kd.R_nil _ _ _ _ _⟩
    · have h1 := (Below.refl w0.heap.size w0).alloc (Nat.le_refl _) (.cells #[.slice A0 n0 c0, .slice A1 n1 c1, .int .i64 a2, .int .i64 a3, .slice A4 n4 c4] 30)
      exact (((h1.alloc h1.size _).alloc ((h1.alloc h1.size _).size) _)).drew
    · refine blk_drew (blk_alloc ?_ _)
      have e : (List.map Value.bool (List.replicate n4 false)).toArray = Array.replicate n4 (Value.bool false) := by simp
      rw [e]
      exact heap_alloc2_new _ _ _
    · refine blk_drew ?_
      rw [List.length_replicate]
      have := heap_alloc_new ((w0.alloc (.cells #[.slice A0 n0 c0, .slice A1 n1 c1, .int .i64 a2, .int .i64 a3, .slice A4 n4 c4] 30)).alloc (.cells (Array.replicate n4 (.bool false)) 4)) (.cells #[.slice A0 n0 c0, .slice A1 n1 c1, .int .i64 a2, .int .i64 a3, .slice A4 n4 c4, .slice (some ⟨w0.heap.size + 1, 0, none⟩) n4 n4, .slice none 0 0] 76)
      rw [size_alloc, size_alloc] at this
      exact this
  have hW := walk63 nx HN.out k _ _ _ _ _ s' hS hw hl
  clear hmk hS
  generalize (((w0.alloc (.cells #[.slice A0 n0 c0, .slice A1 n1 c1, .int .i64 a2, .int .i64 a3, .slice A4 n4 c4] 30)).alloc (.cells (Array.replicate n4 (.bool false)) 4)).alloc (.cells #[.slice A0 n0 c0, .slice A1 n1 c1, .int .i64 a2, .int .i64 a3, .slice A4 n4 c4, .slice (some ⟨w0.heap.size + 1, 0, none⟩) n4 n4, .slice none 0 0] 76)).drew = w1 at hW
  have HW := Aside0.mk hW
  clear hW
  go_wp2_with fail
  refine HW.out.mono ?_
  rintro e w2 ⟨rfl, vl, hS, hK⟩
  obtain ⟨A5, c5, rfl⟩ := R_sl hS.left
  have HS := Aside0.mk hS
  have q6 : w2.cell? ⟨w0.heap.size + 1 + 1, 6, none⟩ = some (.slice A5 s'.2.length c5) := hS.cell 6
  clear hS hK
  go_wp2_with fail
  refine (reverse_any _ _ _ w0 w2 HS.out.below HS.out.left (by omega)).mono ?_
  rintro e w3 ⟨rfl, hR, hB, hF⟩
  have q7 : w3.heap[w0.heap.size + 1 + 1]? = _ := (hF (w0.heap.size + 1 + 1) (fun e => (HS.out.left.1 _ e.symm).1 rfl)).trans HS.out.own
  have q8 : w3.cell? ⟨w0.heap.size + 1 + 1, 6, none⟩ = some (.slice A5 s'.2.length c5) := blk_cell q7 6
  have HR := Aside0.mk hR
  have HB := Aside0.mk hB
  clear hR hB hF q7
  go_wp2_with fail
  go_ret
  exact ⟨_, rfl, Kd.R_mono HR.out (fun _ _ => trivial), HB.out⟩
end Go.Proofs.Ytcknmcfomkbenaa.H
