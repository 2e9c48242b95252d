/- dom.meet goes up as the plain one does; what is asked of a grown tree: whether one dominates, the blocks above, the kids. -/
import Derived.Test.YtcknmcfomkbenaaHg
namespace Go.Proofs.Ytcknmcfomkbenaa.H
open Go.Proofs.Ytcknmcfomkbenaa.D Go.RowKit Go.Proofs.YtcknmcfomkbenaaW.PrintWords Go.Proofs.YtcknmcfomkbenaaW.PrintLast Go.Proofs.YtcknmcfomkbenaaW.PrintMore
theorem Drawn0.dN {w wr : World} (h : Drawn0 w wr) (k : Nat) : Drawn0 w (wr.drewN k) := by
  obtain ⟨x, e⟩ := h.out
  exact ⟨⟨x + k, by rw [e]; exact World.drewN_drewN _ _ _⟩⟩
set_option maxRecDepth 100000 in
set_option maxHeartbeats 4000000 in
theorem meet_any {n : Nat} (k : Nat) (ab pl : List Int) (a b m : Int) (ga gp : Nat) (w : World) (la : ab.length = n) (lp : pl.length = n) (ca : w.heap[ga]? = some (.cells (ab.map (Value.int .i64)).toArray 3 (0, 0))) (cp : w.heap[gp]? = some (.cells (pl.map (Value.int .i64)).toArray 3 (0, 0))) (h : meetF n ab pl k a b = some m) :
    Calls Try.prog 108 #[.slice (some ⟨ga, 0, none⟩) n n, .slice (some ⟨gp, 0, none⟩) n n, .int .i64 a, .int .i64 b] w fun e w' => e = .returned (.int .i64 m) ∧ Drawn0 w w' := by
  have CA := Aside0.mk ca
  have CP := Aside0.mk cp
  have HH := Aside0.mk h
  clear ca cp h
  go_enter Try.func108, Try.ntmps108
  go_wp2_with fail
  go_loopg [2, 3] k (fun gg s2 s3 wr => ∃ (x y : Int) (q : Nat), s2 = .int .i64 x ∧ s3 = .int .i64 y ∧ q ≤ gg ∧ Aside0 (meetF n ab pl q x y = some m) ∧ Aside0 (Drawn0 w wr))
  case atStart => exact ⟨a, b, k, rfl, rfl, Nat.le_refl _, ⟨HH.out⟩, ⟨Drawn0.refl _⟩⟩
  case round =>
    obtain ⟨x, y, q, rfl, rfl, hq, HM, HD⟩ := hrel
    obtain ⟨q, rfl⟩ : ∃ m, q = m + 1 := by
      cases q with
      | zero => have h := HM.out; cases h
      | succ m => exact ⟨m, rfl⟩
    have h := HM.out
    unfold meetF at h
    by_cases e : x = y
    · rw [if_pos e] at h
      obtain rfl := Option.some.inj h
      subst e
      have d0 : (x != x) = false := by simp
      go_wp2_with fail
      go_ret
      exact ⟨rfl, HD.out⟩
    · rw [if_neg e] at h
      have d0 : (x != y) = true := bne_iff_ne.2 e
      by_cases hr : 0 ≤ x ∧ x < (n : Int) ∧ 0 ≤ y ∧ y < (n : Int)
      · rw [if_pos hr] at h
        obtain ⟨x0, x1, y0, y1⟩ := hr
        have ha := HD.out.below.block ga (blk_lt CA.out)
        have hp := HD.out.below.block gp (blk_lt CP.out)
        have cx : wr.cell? ⟨gp, x.toNat, none⟩ = some (.int .i64 (rd pl x)) := (blk_cell (hp.trans CP.out) _).trans (ints_at x0 (by rw [lp]; exact x1))
        have cy : wr.cell? ⟨gp, y.toNat, none⟩ = some (.int .i64 (rd pl y)) := (blk_cell (hp.trans CP.out) _).trans (ints_at y0 (by rw [lp]; exact y1))
        have ax : wr.cell? ⟨ga, x.toNat, none⟩ = some (.int .i64 (rd ab x)) := (blk_cell (ha.trans CA.out) _).trans (ints_at x0 (by rw [la]; exact x1))
        have ay : wr.cell? ⟨ga, y.toNat, none⟩ = some (.int .i64 (rd ab y)) := (blk_cell (ha.trans CA.out) _).trans (ints_at y0 (by rw [la]; exact y1))
        clear ha hp
        by_cases hg : rd pl x > rd pl y
        · rw [if_pos hg] at h
          have H2 := Aside0.mk h
          clear h
          have d1 : decide (rd pl x > rd pl y) = true := decide_eq_true hg
          go_wp2_with fail
          go_region
          go_wp2_with fail
          go_roundg q
          case measure => omega
          case rel => exact ⟨_, _, q, rfl, rfl, Nat.le_refl _, ⟨H2.out⟩, ⟨Drawn0.dN HD.out 1⟩⟩
        · rw [if_neg hg] at h
          have H2 := Aside0.mk h
          clear h
          have d1 : decide (rd pl x > rd pl y) = false := decide_eq_false hg
          go_wp2_with fail
          go_region
          go_wp2_with fail
          go_roundg q
          case measure => omega
          case rel => exact ⟨_, _, q, rfl, rfl, Nat.le_refl _, ⟨H2.out⟩, ⟨Drawn0.dN HD.out 1⟩⟩
      · rw [if_neg hr] at h
        cases h
section
variable {w0 : World} {F : Array Value} {gf ga gd gt gp n : Nat} {ab dp pl : List Int} {w : World}
set_option maxRecDepth 100000 in
set_option maxHeartbeats 4000000 in
theorem there_any (h : T1 w0 F gf ga gd gt gp n ab dp pl w) (b : Int) :
    Calls Try.prog 83 #[.pointer (some ⟨gt, 0, none⟩), .int .i64 b] w fun e w' => e = .returned (.bool (thereB n dp b)) ∧ w' = w := by
  have HT := Aside0.mk h
  clear h
  have t1 : w.cell? ⟨gt, 1, none⟩ = some (.slice (some ⟨gd, 0, none⟩) n n) := blk_cell HT.out.t.ct 1
  go_enter Try.func83, Try.ntmps83
  by_cases h0 : 0 ≤ b
  · have d0 : decide (b ≥ 0) = true := decide_eq_true h0
    by_cases h1 : b < (n : Int)
    · have d1 : decide (b < (n : Int)) = true := decide_eq_true h1
      have c := HT.out.cellD h0 h1
      go_wp2_with fail
      go_ret
      refine ⟨congrArg (fun x => Ending.returned (Value.bool x)) ?_, rfl⟩
      unfold thereB
      simp [h0, h1]
    · have d1 : decide (b < (n : Int)) = false := decide_eq_false h1
      go_wp2_with fail
      go_ret
      refine ⟨congrArg (fun x => Ending.returned (Value.bool x)) ?_, rfl⟩
      unfold thereB
      rw [eq_comm, decide_eq_false_iff_not]
      omega
  · have d0 : decide (b ≥ 0) = false := decide_eq_false h0
    go_wp2_with fail
    go_ret
    refine ⟨congrArg (fun x => Ending.returned (Value.bool x)) ?_, rfl⟩
    unfold thereB
    rw [eq_comm, decide_eq_false_iff_not]
    omega
set_option maxRecDepth 100000 in
set_option maxHeartbeats 4000000 in
theorem dominates_any (h : T1 w0 F gf ga gd gt gp n ab dp pl w) (k : Nat) (a b : Int) (r : Bool) (hd : domF n ab dp k a b = some r) :
    Calls Try.prog 80 #[.pointer (some ⟨gt, 0, none⟩), .int .i64 a, .int .i64 b] w fun e w' => e = .returned (.bool r) ∧ Below w0.heap.size w0 w' := by
  have HT := Aside0.mk h
  clear h
  go_enter Try.func80, Try.ntmps80
  unfold domF at hd
  cases ha : thereB n dp a with
  | false =>
    rw [if_neg (by rw [ha]; simp)] at hd
    obtain rfl := Option.some.inj hd
    go_wp2_with fail
    refine (there_any HT.out a).mono ?_
    rintro e w2 ⟨rfl, rfl⟩
    rw [ha]
    go_wp2_with fail
    go_ret
    exact ⟨rfl, HT.out.t.below⟩
  | true =>
    cases hb : thereB n dp b with
    | false =>
      rw [if_neg (by rw [hb]; simp)] at hd
      obtain rfl := Option.some.inj hd
      go_wp2_with fail
      refine (there_any HT.out a).mono ?_
      rintro e w2 ⟨rfl, rfl⟩
      rw [ha]
      go_wp2_with fail
      refine (there_any HT.out b).mono ?_
      rintro e w2 ⟨rfl, rfl⟩
      rw [hb]
      go_wp2_with fail
      go_ret
      exact ⟨rfl, HT.out.t.below⟩
    | true =>
      rw [if_pos ⟨ha, hb⟩] at hd
      have HC := Aside0.mk hd
      clear hd
      have ha2 : 0 ≤ a ∧ a < (n : Int) ∧ 0 ≤ rd dp a := of_decide_eq_true ha
      obtain ⟨a0, a1, _⟩ := ha2
      go_wp2_with fail
      refine (there_any HT.out a).mono ?_
      rintro e w2 ⟨rfl, rfl⟩
      rw [ha]
      go_wp2_with fail
      refine (there_any HT.out b).mono ?_
      rintro e w2 ⟨rfl, rfl⟩
      rw [hb]
      go_wp2_with fail
      go_loopg [2] k (fun gg s2 wr => ∃ (x : Int) (q : Nat), s2 = .int .i64 x ∧ q ≤ gg ∧ Aside0 (climbF n ab dp a q x = some r) ∧ Aside0 (T1 w0 F gf ga gd gt gp n ab dp pl wr))
      case atStart => exact ⟨b, k, rfl, Nat.le_refl _, ⟨HC.out⟩, ⟨HT.out⟩⟩
      case round =>
        obtain ⟨x, q, rfl, hq, HM, HTr⟩ := hrel
        obtain ⟨q, rfl⟩ : ∃ m, q = m + 1 := by
          cases q with
          | zero => have h := HM.out; cases h
          | succ m => exact ⟨m, rfl⟩
        have h := HM.out
        unfold climbF at h
        by_cases hr : 0 ≤ x ∧ x < (n : Int)
        · rw [if_pos hr] at h
          obtain ⟨x0, x1⟩ := hr
          have t0 : wr.cell? ⟨gt, 0, none⟩ = some (.slice (some ⟨ga, 0, none⟩) n n) := blk_cell HTr.out.t.ct 0
          have t1 : wr.cell? ⟨gt, 1, none⟩ = some (.slice (some ⟨gd, 0, none⟩) n n) := blk_cell HTr.out.t.ct 1
          have dx := HTr.out.cellD x0 x1
          have da := HTr.out.cellD a0 a1
          have ax := HTr.out.cellA x0 x1
          by_cases hg : rd dp x > rd dp a
          · rw [if_pos hg] at h
            have H2 := Aside0.mk h
            clear h
            have d1 : decide (rd dp x > rd dp a) = true := decide_eq_true hg
            go_wp2_with fail
            go_region
            go_wp2_with fail
            go_roundg q
            case measure => omega
            case rel => exact ⟨_, q, rfl, Nat.le_refl _, ⟨H2.out⟩, ⟨HTr.out.drewN 1⟩⟩
          · rw [if_neg hg] at h
            obtain rfl := Option.some.inj h
            have d1 : decide (rd dp x > rd dp a) = false := decide_eq_false hg
            go_wp2_with fail
            go_region
            go_wp2_with fail
            go_ret
            exact ⟨rfl, (HTr.out.drewN 1).t.below⟩
        · rw [if_neg hr] at h
          cases h
end
section
variable {w0 : World} {A0 A1 A4 : Option Addr} {n0 c0 n1 c1 n4 c4 : Nat} {a2 a3 : Int} {ab dp : List Int}
theorem R_own {B : Nat} {w : World} {g : Nat} {l : List Int} (hg : B ≤ g) (hl : l.length ≤ maxLen) (hb : w.heap[g]? = some (.cells (l.map (Value.int .i64)).toArray 3 (0, 0))) : Kd.R (Kd.int .i64) 3 w B (fun _ => True) (.slice (some ⟨g, 0, none⟩) l.length l.length) l := by
  refine ⟨fun _ _ => trivial, l.map (Value.int .i64), ⟨by simp [show (Kd.int IntKind.i64).sz = 1 from rfl], .inr ⟨g, l.length, (l.map (Value.int .i64)).toArray, rfl, hg, hb, Nat.le_refl _, hl, by simp [show (Kd.int IntKind.i64).sz = 1 from rfl], by rw [show l.length * (Kd.int IntKind.i64).sz = (l.map (Value.int .i64)).length by simp [show (Kd.int IntKind.i64).sz = 1 from rfl]]; exact List.take_length⟩⟩, ⟨by simp [show (Kd.int IntKind.i64).sz = 1 from rfl], fun j p hj => ?_⟩⟩
  show ((List.map (Value.int .i64) l).drop (j * 1)).take 1 = [Value.int .i64 p]
  obtain ⟨hj1, rfl⟩ := List.getElem?_eq_some_iff.1 hj
  rw [Nat.mul_one, List.drop_eq_getElem_cons (by simpa using hj1)]
  simp
abbrev Grows (w0 : World) (A0 A1 A4 : Option Addr) (n0 c0 n1 c1 n4 c4 : Nat) (a2 a3 : Int) (ab dp : List Int) : Prop := ∀ w1 : World, Below w0.heap.size w0 w1 → Calls Try.prog 79 #[.agg #[.slice A0 n0 c0, .slice A1 n1 c1, .int .i64 a2, .int .i64 a3, .slice A4 n4 c4]] w1 fun e w' => ∃ v : Value, e = .returned v ∧ Tree w1 #[.slice A0 n0 c0, .slice A1 n1 c1, .int .i64 a2, .int .i64 a3, .slice A4 n4 c4] n4 ab dp v w'
theorem boxed (w0 : World) (F : Array Value) : Below w0.heap.size w0 (w0.alloc (.cells F 30)) := (Below.refl _ _).alloc (Nat.le_refl _) _
set_option maxRecDepth 100000 in
set_option maxHeartbeats 4000000 in
theorem Dominates_any (hG : Grows w0 A0 A1 A4 n0 c0 n1 c1 n4 c4 a2 a3 ab dp) (k : Nat) (a b : Int) (r : Bool) (hd : domF n4 ab dp k a b = some r) :
    Calls Try.prog 49 #[.agg #[.slice A0 n0 c0, .slice A1 n1 c1, .int .i64 a2, .int .i64 a3, .slice A4 n4 c4], .int .i64 a, .int .i64 b] w0 fun e w' => e = .returned (.bool r) ∧ Below w0.heap.size w0 w' := by
  have HG := Aside0.mk hG
  have HD := Aside0.mk hd
  clear hG hd
  have HB := Aside0.mk (boxed w0 #[.slice A0 n0 c0, .slice A1 n1 c1, .int .i64 a2, .int .i64 a3, .slice A4 n4 c4])
  go_enter Try.func49, Try.ntmps49
  go_wp2_with fail
  refine (HG.out _ HB.out).mono ?_
  rintro e w2 ⟨v, rfl, gf, ga, gd, gt, gp, pl, rfl, hT⟩
  have HT := Aside0.mk hT
  clear hT
  go_wp2_with fail
  refine (dominates_any HT.out k a b r HD.out).mono ?_
  rintro e w3 ⟨rfl, hb⟩
  have HB3 := Aside0.mk (HB.out.trans (hb.mono HB.out.size))
  clear hb
  go_wp2_with fail
  go_ret
  exact ⟨rfl, HB3.out⟩
set_option maxRecDepth 100000 in
set_option maxHeartbeats 4000000 in
theorem Above_any (hG : Grows w0 A0 A1 A4 n0 c0 n1 c1 n4 c4 a2 a3 ab dp) (hn : n4 ≤ 64) :
    Calls Try.prog 50 #[.agg #[.slice A0 n0 c0, .slice A1 n1 c1, .int .i64 a2, .int .i64 a3, .slice A4 n4 c4]] w0 fun e w' => ∃ v0_ : Value, e = .returned (v0_) ∧ Kd.R (Kd.int .i64) 3 w' w0.heap.size (fun _ => True) v0_ ab ∧ Below w0.heap.size w0 w' := by
  have HG := Aside0.mk hG
  clear hG
  have HB := Aside0.mk (boxed w0 #[.slice A0 n0 c0, .slice A1 n1 c1, .int .i64 a2, .int .i64 a3, .slice A4 n4 c4])
  go_enter Try.func50, Try.ntmps50
  go_wp2_with fail
  refine (HG.out _ HB.out).mono ?_
  rintro e w2 ⟨v, rfl, gf, ga, gd, gt, gp, pl, rfl, hT⟩
  have HT := Aside0.mk hT
  have t0 : w2.cell? ⟨gt, 0, none⟩ = some (.slice (some ⟨ga, 0, none⟩) n4 n4) := blk_cell hT.t.ct 0
  clear hT
  go_wp2_with fail
  go_ret
  refine ⟨_, rfl, ?_, HB.out.trans (HT.out.t.below.mono HB.out.size)⟩
  have h := R_own (B := w0.heap.size) (Nat.le_trans HB.out.size HT.out.t.ha) (by rw [HT.out.t.la]; simp only [maxLen]; omega) HT.out.t.ca
  rw [HT.out.t.la] at h
  exact h
set_option maxRecDepth 100000 in
set_option maxHeartbeats 4000000 in
theorem Kids_any (hG : Grows w0 A0 A1 A4 n0 c0 n1 c1 n4 c4 a2 a3 ab dp) (hn : n4 ≤ 64) (b : Int) :
    Calls Try.prog 52 #[.agg #[.slice A0 n0 c0, .slice A1 n1 c1, .int .i64 a2, .int .i64 a3, .slice A4 n4 c4], .int .i64 b] w0 fun e w' => ∃ v0_ : Value, e = .returned (v0_) ∧ Kd.R (Kd.int .i64) 3 w' w0.heap.size (fun _ => True) v0_ (kidsL ab b n4) ∧ Below w0.heap.size w0 w' := by
  have HG := Aside0.mk hG
  clear hG
  have HB := Aside0.mk (boxed w0 #[.slice A0 n0 c0, .slice A1 n1 c1, .int .i64 a2, .int .i64 a3, .slice A4 n4 c4])
  have i4 : (Try.prog.info? 3).map (fun i => (i.zero, i.size, i.bytes)) = some (some (.int .i64 0), 1, 8) := by kernel_rfl
  obtain ⟨i0, hi, hz0, hz1, hz2⟩ := info_parts i4
  clear i4
  go_enter Try.func52, Try.ntmps52
  go_wp2_with fail
  refine (HG.out _ HB.out).mono ?_
  rintro e w2 ⟨v, rfl, gf, ga, gd, gt, gp, pl, rfl, hT⟩
  have t0 : w2.cell? ⟨gt, 0, none⟩ = some (.slice (some ⟨ga, 0, none⟩) n4 n4) := blk_cell hT.t.ct 0
  have HB2 := Aside0.mk (HB.out.trans (hT.t.below.mono HB.out.size))
  have HT := Aside0.mk hT
  clear hT
  go_wp2_with fail
  clear t0
  go_loopg [5, 14] n4 (fun gg s5 s14 wr => ∃ (vl : Value) (i : Nat), vl = s5 ∧ s14 = .int .i64 i ∧ i ≤ n4 ∧ n4 - i ≤ gg ∧ Aside0 (Kd.R (Kd.int .i64) 3 wr w2.heap.size (fun _ => True) vl (kidsL ab b i)) ∧ Aside0 (Below w2.heap.size w2 wr))
  case atStart => exact ⟨_, 0, rfl, rfl, Nat.zero_le _, by omega, ⟨Kd.R_nil _ _ _ _ _⟩, ⟨Below.refl _ _⟩⟩
  case round =>
    obtain ⟨vl, i, rfl, rfl, hi2, hgg, HR, HW⟩ := hrel
    by_cases hlt : i < n4
    · have hltz : (i : Int) < (n4 : Int) := by omega
      have ca := (HT.out.on HW.out).cellA (b := (i : Int)) (by omega) hltz
      rw [Int.toNat_natCast] at ca
      have hk : kidsL ab b (i + 1) = if rd ab (i : Int) = b ∧ 0 ≤ rd ab (i : Int) then kidsL ab b i ++ [(i : Int)] else kidsL ab b i := rfl
      have hlen := kidsL_len ab b i
      by_cases h1 : rd ab (i : Int) = b
      · have d1 : (rd ab (i : Int) == b) = true := by rw [h1]; exact beq_self_eq_true _
        by_cases h2 : 0 ≤ rd ab (i : Int)
        · rw [if_pos ⟨h1, h2⟩] at hk
          have d2 : decide (rd ab (i : Int) ≥ 0) = true := decide_eq_true h2
          have HK := Aside0.mk hk
          clear hk h1 h2
          go_wp2_with (first | ((with_reducible refine gate_builtin (b := .append) (xs := #[.tmp 26, .tmp 28]) rfl ?_); at_builtin; refine Kd.R_append (Kd.int .i64) (w0 := w2) w2.heap.size rfl (.tmp 26) (.tmp 28) 27 3 (.int .i64 0) 8 rfl Try.underlying27 PF.info3 rfl (by decide) (by omega) vl (kidsL ab b i) (i : Int) [.int .i64 i] (fun _ => True) (fun _ => False) rfl rfl ?aP (fun _ hk => hk.elim) ?aF ?aO ?aB ?aS ?aL ?_; (case aP => exact rfl); (case aB => exact HW.out); (case aF => exact (fun _ _ => trivial)); (case aO => exact HR.out); (case aS => exact HW.out.size); (case aL => omega); intro v1 w5 ho hb hg hat; have HO := Aside0.mk ho; have HB5 := Aside0.mk hb; clear ho hb hg hat))
          go_roundg (n4 - (i + 1))
          case measure => omega
          case rel => exact ⟨_, i + 1, rfl, congrArg (Value.int .i64) (by first | omega | (unfold wrap64; omega)), by omega, Nat.le_refl _, ⟨by rw [HK.out]; exact HO.out⟩, ⟨HB5.out⟩⟩
        · rw [if_neg (fun h => h2 h.2)] at hk
          have d2 : decide (rd ab (i : Int) ≥ 0) = false := decide_eq_false h2
          have HK := Aside0.mk hk
          clear hk h1 h2
          go_wp2_with fail
          go_roundg (n4 - (i + 1))
          case measure => omega
          case rel => exact ⟨_, i + 1, rfl, congrArg (Value.int .i64) (by first | omega | (unfold wrap64; omega)), by omega, Nat.le_refl _, ⟨by rw [HK.out]; exact HR.out⟩, ⟨HW.out⟩⟩
      · rw [if_neg (fun h => h1 h.1)] at hk
        have d1 : (rd ab (i : Int) == b) = false := by rw [beq_eq_false_iff_ne]; exact h1
        have HK := Aside0.mk hk
        clear hk h1
        go_wp2_with fail
        go_roundg (n4 - (i + 1))
        case measure => omega
        case rel => exact ⟨_, i + 1, rfl, congrArg (Value.int .i64) (by first | omega | (unfold wrap64; omega)), by omega, Nat.le_refl _, ⟨by rw [HK.out]; exact HR.out⟩, ⟨HW.out⟩⟩
    · obtain rfl : i = n4 := by omega
      go_wp2_with fail
      go_ret
      exact ⟨_, rfl, Kd.R_lower HR.out HB2.out.size, HB2.out.trans (HW.out.mono HB2.out.size)⟩
end
end Go.Proofs.Ytcknmcfomkbenaa.H
