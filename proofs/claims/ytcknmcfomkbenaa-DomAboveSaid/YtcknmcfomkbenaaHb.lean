/- flow's walker walks as the plain walk does: from any state of its own, if the plain walk ends. -/
import Derived.Test.YtcknmcfomkbenaaHa
import Derived.Test.YtcknmcfomkbenaaDF
namespace Go.Proofs.Ytcknmcfomkbenaa.H
open Go.Proofs.Ytcknmcfomkbenaa.D Go.RowKit Go.Lib Go.Sort Go.Proofs.YtcknmcfomkbenaaW.PrintWords Go.Proofs.YtcknmcfomkbenaaW.PrintLast Go.Proofs.YtcknmcfomkbenaaW.PrintMore
theorem fold_grows {step : List Bool × List Int → Int → Option (List Bool × List Int)} (hs : ∀ s b s', step s b = some s' → s'.1.length = s.1.length ∧ s.2.length ≤ s'.2.length) : ∀ (r : List Int) (s s' : List Bool × List Int), r.foldlM step s = some s' → s'.1.length = s.1.length ∧ s.2.length ≤ s'.2.length
  | [], s, s', h => by
    obtain rfl := Option.some.inj h
    exact ⟨rfl, Nat.le_refl _⟩
  | b :: r, s, s', h => by
    rw [List.foldlM_cons] at h
    cases h1 : step s b with
    | none => rw [h1] at h; cases h
    | some t =>
      rw [h1] at h
      have a := hs s b t h1
      have c := fold_grows hs r t s' h
      exact ⟨c.1.trans a.1, Nat.le_trans a.2 c.2⟩
theorem walkF_grows (nx : Int → List Int) : ∀ k s b s', walkF nx k s b = some s' → s'.1.length = s.1.length ∧ s.2.length ≤ s'.2.length
  | 0, s, b, s', h => by cases h
  | k + 1, (m, l), b, s', h => by
    unfold walkF at h
    by_cases h0 : b < 0
    · rw [if_pos h0] at h; obtain rfl := Option.some.inj h; exact ⟨rfl, Nat.le_refl _⟩
    rw [if_neg h0] at h
    by_cases h1 : b ≥ (m.length : Int)
    · rw [if_pos h1] at h; obtain rfl := Option.some.inj h; exact ⟨rfl, Nat.le_refl _⟩
    rw [if_neg h1] at h
    by_cases h2 : rdOf false m b = true
    · rw [if_pos h2] at h; obtain rfl := Option.some.inj h; exact ⟨rfl, Nat.le_refl _⟩
    rw [if_neg h2] at h
    obtain ⟨t, ht, rfl⟩ := Option.map_eq_some_iff.1 h
    have := fold_grows (walkF_grows nx k) _ _ _ ht
    simp only [List.length_set, List.length_append, List.length_cons, List.length_nil] at this ⊢
    omega
structure WS (w0 : World) (A0 A1 A4 : Option Addr) (n0 c0 n1 c1 n4 c4 : Nat) (a2 a3 : Int) (g gm : Nat) (m : List Bool) (l : List Int) (vl : Value) (w : World) : Prop where
  below : Below w0.heap.size w0 w
  hg : w0.heap.size ≤ g
  hgm : w0.heap.size ≤ gm
  ne : g ≠ gm
  met : w.heap[gm]? = some (.cells (m.map Value.bool).toArray 4 (0, 0))
  own : w.heap[g]? = some (.cells #[.slice A0 n0 c0, .slice A1 n1 c1, .int .i64 a2, .int .i64 a3, .slice A4 n4 c4, .slice (some ⟨gm, 0, none⟩) m.length m.length, vl] 76 (0, 0))
  left : Kd.R (Kd.int .i64) 3 w w0.heap.size (fun k => k ≠ g ∧ k ≠ gm) vl l
structure WK (g gm : Nat) (vl vl' : Value) (w w' : World) : Prop where
  size : w.heap.size ≤ w'.heap.size
  kept : ∀ i, i < w.heap.size → i ≠ g → i ≠ gm → some i ≠ vl.ownBlock → w'.heap[i]? = w.heap[i]?
  row : vl'.ownBlock = vl.ownBlock ∨ ∃ b, vl'.ownBlock = some b ∧ w.heap.size ≤ b
theorem WK.refl (g gm : Nat) (vl : Value) (w : World) : WK g gm vl vl w w := ⟨Nat.le_refl _, fun _ _ _ _ _ => rfl, .inl rfl⟩
theorem WK.trans {g gm : Nat} {vl vl1 vl2 : Value} {w w1 w2 : World} (h : WK g gm vl vl1 w w1) (k : WK g gm vl1 vl2 w1 w2) : WK g gm vl vl2 w w2 := by
  refine ⟨Nat.le_trans h.size k.size, fun i hi h1 h2 h3 => ?_, ?_⟩
  · refine (k.kept i (Nat.lt_of_lt_of_le hi h.size) h1 h2 ?_).trans (h.kept i hi h1 h2 h3)
    rcases h.row with h4 | ⟨b, h4, h5⟩
    · rw [h4]; exact h3
    · rw [h4]; intro e; injection e with e; omega
  · rcases k.row with h4 | ⟨b, h4, h5⟩
    · rw [h4]; exact h.row
    · exact .inr ⟨b, h4, Nat.le_trans h.size h5⟩
section
variable {w0 : World} {A0 A1 A4 : Option Addr} {n0 c0 n1 c1 n4 c4 : Nat} {a2 a3 : Int} {g gm : Nat} {m : List Bool} {l : List Int} {vl : Value} {w : World}
theorem WS.cell (h : WS w0 A0 A1 A4 n0 c0 n1 c1 n4 c4 a2 a3 g gm m l vl w) (i : Nat) : w.cell? ⟨g, i, none⟩ = #[Value.slice A0 n0 c0, .slice A1 n1 c1, .int .i64 a2, .int .i64 a3, .slice A4 n4 c4, .slice (some ⟨gm, 0, none⟩) m.length m.length, vl][i]? := blk_cell h.own i
theorem WS.mark (h : WS w0 A0 A1 A4 n0 c0 n1 c1 n4 c4 a2 a3 g gm m l vl w) {b : Int} : WS w0 A0 A1 A4 n0 c0 n1 c1 n4 c4 a2 a3 g gm (m.set b.toNat true) l vl (w.setCell ⟨gm, b.toNat, none⟩ (.bool true)) := by
  refine ⟨h.below.setCell h.hgm _, h.hg, h.hgm, h.ne, ?_, ?_, ?_⟩
  · rw [blk_set h.met]
    simp [List.map_set]
  · rw [blk_far h.own (fun e => h.ne e), List.length_set]
  · exact Kd.R_far h.left (fun k hk => hk.2) _
theorem WS.on (h : WS w0 A0 A1 A4 n0 c0 n1 c1 n4 c4 a2 a3 g gm m l vl w) {w' : World} (hb : Below w.heap.size w w') : WS w0 A0 A1 A4 n0 c0 n1 c1 n4 c4 a2 a3 g gm m l vl w' := by
  refine ⟨h.below.trans (hb.mono h.below.size), h.hg, h.hgm, h.ne, ?_, ?_, ?_⟩
  · rw [hb.block gm (blk_lt h.met)]; exact h.met
  · rw [hb.block g (blk_lt h.own)]; exact h.own
  · exact Kd.R_below h.left hb
theorem R_reads {B : Nat} {w1 : World} {v : Value} {xs : List Int} (h : Kd.R (Kd.int .i64) 3 w1 B (fun _ => True) v xs) : xs.length ≤ 9223372036854775807 ∧ ∃ A c, v = .slice A xs.length c ∧ ∀ j (hj : j < xs.length), ∃ gv, A = some ⟨gv, 0, none⟩ ∧ B ≤ gv ∧ gv < w1.heap.size ∧ ∀ w2 : World, w2.heap[gv]? = w1.heap[gv]? → w2.cell? ⟨gv, j, none⟩ = some (.int .i64 xs[j]) := by
  obtain ⟨_, inner, hown, hr⟩ := h
  rcases hown.2 with ⟨rfl, hn⟩ | ⟨gv, cap, cur, rfl, hg, hb, h1, h2, h3, h4⟩
  · exact ⟨by omega, none, 0, by rw [hn], fun j hj => by omega⟩
  · refine ⟨by simp only [maxLen] at h2; omega, _, _, rfl, fun j hj => ⟨gv, rfl, hg, blk_lt hb, fun w2 hw2 => ?_⟩⟩
    have h5 : (inner.drop (j * 1)).take 1 = [Value.int .i64 xs[j]] := hr.2 j _ (List.getElem?_eq_getElem hj)
    have h6 : inner[j]? = some (Value.int .i64 xs[j]) := by
      have : ((inner.drop (j * 1)).take 1)[0]? = inner[j]? := by
        rw [List.getElem?_take, if_pos (by omega), List.getElem?_drop]
        simp
      rw [← this, h5]
      rfl
    have h7 : cur[j]? = inner[j]? := by
      rw [← h4, List.getElem?_take, if_pos (by simp [show (Kd.int IntKind.i64).sz = 1 from rfl]; exact hj), Array.getElem?_toList]
    rw [blk_cell (hw2.trans hb) j, h7, h6]
theorem R_lt {B : Nat} {w1 : World} {v : Value} {xs : List Int} {ok : Nat → Prop} (h : Kd.R (Kd.int .i64) 3 w1 B ok v xs) (k : Nat) (hk : some k = v.ownBlock) : k < w1.heap.size := by
  obtain ⟨_, inner, hown, _⟩ := h
  rcases hown.2 with ⟨rfl, _⟩ | ⟨gv, cap, cur, rfl, _, hb, _⟩
  · simp [Value.ownBlock] at hk
  · injection hk with hk
    rw [hk]
    exact blk_lt hb
theorem R_sl {B : Nat} {w1 : World} {v : Value} {xs : List Int} {ok : Nat → Prop} (h : Kd.R (Kd.int .i64) 3 w1 B ok v xs) : ∃ A c, v = .slice A xs.length c := by
  obtain ⟨_, inner, hown, _⟩ := h
  rcases hown.2 with ⟨rfl, h0⟩ | ⟨gv, cap, cur, rfl, _⟩
  · exact ⟨none, 0, by rw [h0]⟩
  · exact ⟨_, _, rfl⟩
theorem size_set (w1 : World) (p : Addr) (u : Value) : (w1.setCell p u).heap.size = w1.heap.size := by simp [World.setCell]
set_option maxRecDepth 100000 in
set_option maxHeartbeats 4000000 in
theorem walk63 (nx : Int → List Int) (hN : ∀ (w1 : World) (b : Int), Below w0.heap.size w0 w1 → Calls Try.prog 19 #[.agg #[.slice A0 n0 c0, .slice A1 n1 c1, .int .i64 a2, .int .i64 a3, .slice A4 n4 c4], .int .i64 b] w1 fun e w' => ∃ v, e = .returned v ∧ Kd.R (Kd.int .i64) 3 w' w1.heap.size (fun _ => True) v (nx b) ∧ Below w1.heap.size w1 w') :
    ∀ (k : Nat) (m : List Bool) (l : List Int) (vl : Value) (b : Int) (w : World) (s' : List Bool × List Int), WS w0 A0 A1 A4 n0 c0 n1 c1 n4 c4 a2 a3 g gm m l vl w → walkF nx k (m, l) b = some s' → s'.2.length ≤ 8796093022208 →
      Calls Try.prog 63 #[.pointer (some ⟨g, 0, none⟩), .int .i64 b] w fun e w' => e = .returned (.tuple #[]) ∧ ∃ vl', WS w0 A0 A1 A4 n0 c0 n1 c1 n4 c4 a2 a3 g gm s'.1 s'.2 vl' w' ∧ WK g gm vl vl' w w' := by
  have HN := Aside0.mk hN
  clear hN
  intro k
  induction k with
  | zero => intro m l vl b w s' _ h; cases h
  | succ k ih =>
    have IH := Aside0.mk ih
    clear ih
    intro m l vl b w s' hS hw hlen
    have HS := Aside0.mk hS
    have k0 := hS.cell 0
    have k1 := hS.cell 1
    have k2 := hS.cell 2
    have k3 := hS.cell 3
    have k4 := hS.cell 4
    have k5 := hS.cell 5
    have k6 := hS.cell 6
    simp at k0 k1 k2 k3 k4 k5 k6
    clear hS
    unfold walkF at hw
    by_cases h0 : b < 0
    · rw [if_pos h0] at hw
      obtain rfl := Option.some.inj hw
      go_enter Try.func63, Try.ntmps63
      go_wp2_with fail
      (try simp only [Exit.inBlock, Exit.then]); refine bodyPost_ret (results_none rfl _ _ _) rfl ?_
      exact ⟨rfl, vl, HS.out, WK.refl _ _ _ _⟩
    rw [if_neg h0] at hw
    by_cases h1 : b ≥ (m.length : Int)
    · rw [if_pos h1] at hw
      obtain rfl := Option.some.inj hw
      go_enter Try.func63, Try.ntmps63
      go_wp2_with fail
      (try simp only [Exit.inBlock, Exit.then]); refine bodyPost_ret (results_none rfl _ _ _) rfl ?_
      exact ⟨rfl, vl, HS.out, WK.refl _ _ _ _⟩
    rw [if_neg h1] at hw
    have p0 : 0 ≤ b := by omega
    have p1 : b < (m.length : Int) := by omega
    have hm := blk_cell HS.out.met b.toNat
    have hmf := blk_frozen HS.out.met b.toNat
    have hx : (m.map Value.bool).toArray[b.toNat]? = some (.bool (rdOf false m b)) := by
      unfold rdOf
      rw [List.getElem?_toArray, List.getElem?_map, List.getD_eq_getElem?_getD, List.getElem?_eq_getElem (by omega)]
      rfl
    rw [hx] at hm
    clear hx
    by_cases h2 : rdOf false m b = true
    · rw [if_pos h2] at hw
      rw [h2] at hm
      obtain rfl := Option.some.inj hw
      go_enter Try.func63, Try.ntmps63
      go_wp2_with fail
      (try simp only [Exit.inBlock, Exit.then]); refine bodyPost_ret (results_none rfl _ _ _) rfl ?_
      exact ⟨rfl, vl, HS.out, WK.refl _ _ _ _⟩
    rw [if_neg h2] at hw
    rw [Bool.not_eq_true] at h2
    rw [h2] at hm
    obtain ⟨t, ht, rfl⟩ := Option.map_eq_some_iff.1 hw
    clear hw
    have HT := Aside0.mk ht
    have HL := Aside0.mk hlen
    clear ht hlen
    have HM := Aside0.mk (HS.out.mark (b := b))
    have far : ∀ i, (w.setCell ⟨gm, b.toNat, none⟩ (.bool true)).cell? ⟨g, i, none⟩ = w.cell? ⟨g, i, none⟩ := fun i => by
      rw [blk_cell HM.out.own i, HS.out.cell i, List.length_set]
    have FAR := Aside0.mk far
    clear far
    have j0 := (FAR.out 0).trans k0
    have j1 := (FAR.out 1).trans k1
    have j2 := (FAR.out 2).trans k2
    have j3 := (FAR.out 3).trans k3
    have j4 := (FAR.out 4).trans k4
    go_enter Try.func63, Try.ntmps63
    go_wp2_with fail
    refine (HN.out _ b HM.out.below).mono ?_
    rintro e w2 ⟨v, rfl, hR, hB⟩
    obtain ⟨hbig, Av, cv, rfl, hv⟩ := R_reads hR
    have HV := Aside0.mk hv
    have HB2 := Aside0.mk hB
    have HS2 := Aside0.mk (HM.out.on hB)
    clear hv hR hB
    go_wp2_with fail
    go_loopg [39] (nx b).length (fun gg s39 wr => ∃ (j : Nat) (m1 : List Bool) (l1 : List Int) (vl1 : Value), s39 = .int .i64 j ∧ j ≤ (nx b).length ∧ (nx b).length - j ≤ gg ∧ Aside0 (List.foldlM (walkF nx k) (m1, l1) ((nx b).drop j) = some t) ∧ Aside0 (WS w0 A0 A1 A4 n0 c0 n1 c1 n4 c4 a2 a3 g gm m1 l1 vl1 wr) ∧ Aside0 (WK g gm vl vl1 w2 wr))
    case atStart =>
      exact ⟨0, _, _, vl, rfl, Nat.zero_le _, by omega, ⟨HT.out⟩, ⟨HS2.out⟩, ⟨WK.refl _ _ _ _⟩⟩
    case round =>
      obtain ⟨j, m1, l1, vl1, rfl, hj, hgg, HT1, HS1, HK1⟩ := hrel
      by_cases hlt : j < (nx b).length
      · have hltz : (j : Int) < ((nx b).length : Int) := by omega
        obtain ⟨gv, rfl, hgv, hgv2, hcell⟩ := HV.out j hlt
        have hkeep : wr.heap[gv]? = w2.heap[gv]? := by
          rw [size_set] at hgv
          refine HK1.out.kept gv hgv2 ?_ ?_ ?_
          · have := blk_lt HS.out.own; omega
          · have := blk_lt HS.out.met; omega
          · intro e
            have := R_lt HS.out.left gv e
            omega
        have hc := hcell wr hkeep
        clear hcell hkeep
        have hf := HT1.out
        rw [List.drop_eq_getElem_cons hlt, List.foldlM_cons] at hf
        obtain ⟨s1, hs1, hf1⟩ : ∃ s1, walkF nx k (m1, l1) (nx b)[j] = some s1 ∧ List.foldlM (walkF nx k) s1 ((nx b).drop (j + 1)) = some t := by
          cases hq : walkF nx k (m1, l1) (nx b)[j] with
          | none => rw [hq] at hf; cases hf
          | some s1 => rw [hq] at hf; exact ⟨s1, rfl, hf⟩
        have hcall := IH.out m1 l1 vl1 (nx b)[j] wr s1 HS1.out hs1 (by
          have h5 := fold_grows (walkF_grows nx k) _ _ _ hf1
          have h6 := HL.out
          rw [List.length_append] at h6
          omega)
        have HF1 := Aside0.mk hf1
        clear hf hf1 hs1
        generalize (nx b)[j] = bj at hc hcall
        go_wp2_with fail
        refine hcall.mono ?_
        rintro e w4 ⟨rfl, vl4, hS4, hK4⟩
        have HS4 := Aside0.mk hS4
        have HK4 := Aside0.mk hK4
        clear hS4 hK4 hcall
        go_wp2_with fail
        go_roundg ((nx b).length - (j + 1))
        case measure => omega
        case rel =>
          refine ⟨j + 1, s1.1, s1.2, vl4, ?_, by omega, Nat.le_refl _, ⟨HF1.out⟩, ⟨HS4.out⟩, ⟨HK1.out.trans HK4.out⟩⟩
          exact congrArg (Value.int .i64) (by first | omega | (unfold wrap64; omega))
      · have hje : j = (nx b).length := by omega
        have hf := HT1.out
        rw [List.drop_of_length_le (by omega)] at hf
        obtain rfl : (m1, l1) = t := Option.some.inj hf
        clear hf
        subst hje
        have q6 : wr.cell? ⟨g, 6, none⟩ = some vl1 := HS1.out.cell 6
        have hgl := blk_lt HS1.out.own
        have hml := blk_lt HS1.out.met
        have hL2 := HL.out
        simp only [List.length_append, List.length_cons, List.length_nil] at hL2
        have okr : ∀ k, vl1.ownBlock = some k → k ≠ g ∧ k ≠ gm := HS1.out.left.1
        have OKR := Aside0.mk okr
        clear okr
        go_wp2_with (first | ((with_reducible refine gate_builtin (b := .append) (xs := #[.tmp 51, .tmp 53]) rfl ?_); at_builtin; refine Kd.R_append (Kd.int .i64) (w0 := w0) w0.heap.size rfl (.tmp 51) (.tmp 53) 27 3 (.int .i64 0) 8 rfl Try.underlying27 PF.info3 rfl (by decide) (by omega) vl1 l1 b [.int .i64 b] (fun k => k ≠ g ∧ k ≠ gm) (fun _ => False) rfl rfl ?aP (fun _ hk => hk.elim) ?aF ?aO ?aB ?aS ?aL ?_; (case aP => exact rfl); (case aB => exact HS1.out.below); (case aF => exact (fun _ _ => ⟨by omega, by omega⟩)); (case aO => exact HS1.out.left); (case aS => exact HS1.out.below.size); (case aL => omega); intro v1 w5 ho hb hg hat; obtain ⟨A5, c5, rfl⟩ := R_sl ho; have HO := Aside0.mk ho; have HB5 := Aside0.mk hb; have HG5 := Aside0.mk hg; have HA5 := Aside0.mk hat; have q5 : w5.heap[g]? = _ := (hg.block g hgl (fun e => (OKR.out g e.symm).1 rfl)).trans HS1.out.own; have Q5 := Aside0.mk q5; have qf := blk_frozen q5 6; have qc : w5.cell? ⟨g, 6, none⟩ = some vl1 := blk_cell q5 6; clear ho hb hg hat q5))
        go_end0
        have hg5 := Aside0.out HG5
        have q7 : w5.heap[gm]? = some (.cells (m1.map Value.bool).toArray 4 (0, 0)) := (hg5.block gm hml (fun e => (OKR.out gm e.symm).2 rfl)).trans HS1.out.met
        have ho5 := HO.out
        have ha5 := HA5.out
        rw [show (l1 ++ [b]).length = l1.length + 1 from List.length_append] at ho5 ha5
        refine ⟨rfl, .slice A5 (l1.length + 1) c5, ⟨HB5.out.setCell HS1.out.hg _, HS1.out.hg, HS1.out.hgm, HS1.out.ne, ?_, ?_, ?_⟩, ?_⟩
        · rw [blk_far q7 (fun e => HS1.out.ne e.symm)]
        · rw [blk_set Q5.out]
          rfl
        · exact Kd.R_far ho5 (fun k hk => hk.1) _
        · have hk1 := HK1.out
          have hb2 := HB2.out
          have hs0 := blk_lt HS.out.own
          have hs1 := blk_lt HS.out.met
          refine ⟨?_, fun i hi e1 e2 e3 => ?_, ?_⟩
          · rw [size_set]
            have := hk1.size
            have := hg5.size
            have := hb2.size
            rw [size_set] at this
            omega
          · rw [Below.heap_setCell _ _ _ i (fun e => e1 e)]
            have h2 : i < w2.heap.size := by have := hb2.size; rw [size_set] at this; omega
            have h3 : i < wr.heap.size := by have := hk1.size; omega
            rw [hg5.block i h3 ?_, hk1.kept i h2 e1 e2 e3, hb2.block i (by rw [size_set]; exact hi), Below.heap_setCell _ _ _ i (fun e => e2 e)]
            rcases hk1.row with h4 | ⟨b4, h4, h5⟩
            · rw [h4]; exact e3
            · rw [h4]; intro e; injection e with e; omega
          · have : w.heap.size ≤ wr.heap.size := by
              have := hk1.size
              have := hb2.size
              rw [size_set] at this
              omega
            rcases ha5 with h6 | ⟨b6, h6, h7⟩
            · rw [h6]
              rcases hk1.row with h4 | ⟨b4, h4, h5⟩
              · exact .inl h4
              · refine .inr ⟨b4, h4, ?_⟩
                have := hb2.size
                rw [size_set] at this
                omega
            · exact .inr ⟨b6, h6, by omega⟩
end
end Go.Proofs.Ytcknmcfomkbenaa.H
