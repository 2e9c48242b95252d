/- dom.Meet answers where two blocks meet, if the sets of numbers answer. -/
import Derived.Test.YtcknmcfomkbenaaHh
namespace Go.Proofs.Ytcknmcfomkbenaa.H
open Go.Proofs.Ytcknmcfomkbenaa.D Go.RowKit Go.Proofs.YtcknmcfomkbenaaW.PrintWords Go.Proofs.YtcknmcfomkbenaaW.PrintLast Go.Proofs.YtcknmcfomkbenaaW.PrintMore
theorem C_one (w : World) (b : Int) : Kd.C (Kd.int .i64) (w.alloc (.cells #[.int .i64 b] 3)) (some ⟨w.heap.size, 0, none⟩) 1 [b] := by
  refine ⟨rfl, by omega, fun _ => ⟨_, rfl, fun j p hj => ?_⟩⟩
  obtain ⟨rfl, rfl⟩ : j = 0 ∧ b = p := by
    match j, hj with
    | 0, hj => exact ⟨rfl, by simpa using hj⟩
  refine ⟨[.int .i64 b], rfl, rfl, fun i u hi => ?_⟩
  obtain ⟨rfl, rfl⟩ : i = 0 ∧ Value.int .i64 b = u := by
    match i, hi with
    | 0, hi => exact ⟨rfl, by simpa using hi⟩
  exact blk_cell (heap_alloc_new w (.cells #[.int .i64 b] 3)) 0
def SetC (w : World) (v : Value) (s : List Int) : Prop := ∃ A c, v = .slice A s.length c ∧ s.length ≤ c ∧ Kd.C (Kd.int .u64) w A s.length s
theorem SetC.on {w w' : World} {v : Value} {s : List Int} (h : SetC w v s) (hb : Below w.heap.size w w') : SetC w' v s := by
  obtain ⟨A, c, e, hl, hc⟩ := h
  exact ⟨A, c, e, hl, Kd.C_below hc hb⟩
section
variable {w0 : World} {F : Array Value} {gf ga gd gt gp n : Nat} {ab dp pl : List Int} {w : World} {f : Int → Option (List Int)} {wi : List Int → Int → Option (List Int)} {ha : List Int → Int → Option Bool}
def OfC (f : Int → Option (List Int)) : Prop := ∀ (b : Int) (s : List Int) (w1 : World) (g : Nat), f b = some s → Kd.C (Kd.int .i64) w1 (some ⟨g, 0, none⟩) 1 [b] → Calls Try.prog 110 #[.slice (some ⟨g, 0, none⟩) 1 1] w1 fun e w' => ∃ v, e = .returned v ∧ SetC w' v s ∧ Below w1.heap.size w1 w'
def WiC (wi : List Int → Int → Option (List Int)) : Prop := ∀ (A : Option Addr) (c : Nat) (s : List Int) (b : Int) (t : List Int) (w1 : World) (g : Nat), wi s b = some t → s.length ≤ c → Kd.C (Kd.int .u64) w1 A s.length s → Kd.C (Kd.int .i64) w1 (some ⟨g, 0, none⟩) 1 [b] → Calls Try.prog 111 #[.slice A s.length c, .slice (some ⟨g, 0, none⟩) 1 1] w1 fun e w' => ∃ v, e = .returned v ∧ SetC w' v t ∧ Below w1.heap.size w1 w'
def HaC (ha : List Int → Int → Option Bool) : Prop := ∀ (A : Option Addr) (c : Nat) (s : List Int) (b : Int) (t : Bool) (w1 : World), ha s b = some t → s.length ≤ c → Kd.C (Kd.int .u64) w1 A s.length s → Calls Try.prog 85 #[.slice A s.length c, .int .i64 b] w1 fun e w' => e = .returned (.bool t) ∧ Drawn0 w1 w'
set_option maxRecDepth 100000 in
set_option maxHeartbeats 4000000 in
theorem up_any (hO : OfC f) (hW : WiC wi) (h : T1 w0 F gf ga gd gt gp n ab dp pl w) (k : Nat) (b : Int) (s0 s : List Int) (ht : thereB n dp b = true) (h0 : f b = some s0) (hu : upF n ab wi k b s0 = some s) :
    Calls Try.prog 84 #[.pointer (some ⟨gt, 0, none⟩), .int .i64 b] w fun e w' => ∃ v, e = .returned v ∧ SetC w' v s ∧ T1 w0 F gf ga gd gt gp n ab dp pl w' := by
  have HT := Aside0.mk h
  have HU := Aside0.mk hu
  have HO := Aside0.mk hO
  have HW := Aside0.mk hW
  have H0 := Aside0.mk h0
  clear h hu hO hW h0
  go_enter Try.func84, Try.ntmps84
  go_wp2_with fail
  refine (there_any HT.out b).mono ?_
  rintro e w2 ⟨rfl, rfl⟩
  rw [ht]
  go_wp2_with fail
  refine (HO.out b s0 _ _ H0.out (C_one _ b)).mono ?_
  rintro e w3 ⟨v, rfl, hS, hB⟩
  have HT3 := Aside0.mk (HT.out.on (((Below.refl _ _).alloc (Nat.le_refl _) _).trans (hB.mono (by simp))))
  have HS3 := Aside0.mk hS
  clear hS hB
  go_wp2_with fail
  go_loopg [1, 5] k (fun gg s1 s5 wr => ∃ (x : Int) (v : Value) (q : Nat) (t : List Int), s1 = .int .i64 x ∧ v = s5 ∧ q ≤ gg ∧ Aside0 (upF n ab wi q x t = some s) ∧ Aside0 (SetC wr v t) ∧ Aside0 (T1 w0 F gf ga gd gt gp n ab dp pl wr))
  case atStart => exact ⟨b, _, k, s0, rfl, rfl, Nat.le_refl _, ⟨HU.out⟩, ⟨HS3.out⟩, ⟨HT3.out⟩⟩
  case round =>
    obtain ⟨x, v, q, t, rfl, rfl, hq, HM, HS, HTr⟩ := hrel
    obtain ⟨q, rfl⟩ : ∃ m, q = m + 1 := by
      cases q with
      | zero => have h := HM.out; cases h
      | succ m => exact ⟨m, rfl⟩
    have h := HM.out
    unfold upF at h
    by_cases hr : 0 ≤ x ∧ x < (n : Int)
    · rw [if_pos hr] at h
      obtain ⟨x0, x1⟩ := hr
      have t0 : wr.cell? ⟨gt, 0, none⟩ = some (.slice (some ⟨ga, 0, none⟩) n n) := blk_cell HTr.out.t.ct 0
      have ax := HTr.out.cellA x0 x1
      by_cases hg : 0 ≤ rd ab x
      · rw [if_pos hg] at h
        obtain ⟨t2, h1, h2⟩ := Option.bind_eq_some_iff.1 h
        have H1 := Aside0.mk h1
        have H2 := Aside0.mk h2
        clear h h1 h2
        have d1 : decide (rd ab x ≥ 0) = true := decide_eq_true hg
        obtain ⟨A, c, rfl, hl, hc⟩ := HS.out
        have HC := Aside0.mk hc
        have HL := Aside0.mk hl
        clear hc hl HS
        go_wp2_with fail
        refine (HW.out A c t (rd ab x) t2 _ _ H1.out HL.out (Kd.C_below HC.out ((Below.refl _ _).alloc (Nat.le_refl _) _)) (C_one _ _)).mono ?_
        rintro e w5 ⟨v5, rfl, hS, hB⟩
        have HT5 := Aside0.mk (HTr.out.on (((Below.refl _ _).alloc (Nat.le_refl _) _).trans (hB.mono (by simp))))
        have HS5 := Aside0.mk hS
        clear hS hB
        go_wp2_with fail
        go_roundg q
        case measure => omega
        case rel => exact ⟨_, _, q, t2, rfl, rfl, Nat.le_refl _, ⟨H2.out⟩, ⟨HS5.out⟩, ⟨HT5.out⟩⟩
      · rw [if_neg hg] at h
        obtain rfl := Option.some.inj h
        have d1 : decide (rd ab x ≥ 0) = false := decide_eq_false hg
        go_wp2_with fail
        go_ret
        exact ⟨_, rfl, HS.out, HTr.out⟩
    · rw [if_neg hr] at h
      cases h
end
section
variable {w0 : World} {A0 A1 A4 : Option Addr} {n0 c0 n1 c1 n4 c4 : Nat} {a2 a3 : Int} {ab dp : List Int} {f : Int → Option (List Int)} {wi : List Int → Int → Option (List Int)} {ha : List Int → Int → Option Bool}
set_option maxRecDepth 100000 in
set_option maxHeartbeats 4000000 in
theorem Meet_any (hO : OfC f) (hW : WiC wi) (hH : HaC ha) (hG : Grows w0 A0 A1 A4 n0 c0 n1 c1 n4 c4 a2 a3 ab dp) (k : Nat) (a b r : Int) (hd : meet2F n4 ab dp f wi ha k a b = some r) :
    Calls Try.prog 54 #[.agg #[.slice A0 n0 c0, .slice A1 n1 c1, .int .i64 a2, .int .i64 a3, .slice A4 n4 c4], .int .i64 a, .int .i64 b] w0 fun e w' => e = .returned (.int .i64 r) ∧ Below w0.heap.size w0 w' := by
  have HO := Aside0.mk hO
  have HW := Aside0.mk hW
  have HH := Aside0.mk hH
  have HG := Aside0.mk hG
  clear hO hW hH hG
  have HB := Aside0.mk (boxed w0 #[.slice A0 n0 c0, .slice A1 n1 c1, .int .i64 a2, .int .i64 a3, .slice A4 n4 c4])
  unfold meet2F at hd
  go_enter Try.func54, Try.ntmps54
  go_wp2_with fail
  refine (HG.out _ HB.out).mono ?_
  rintro e w2 ⟨v, rfl, gf, ga, gd, gt, gp, pl, rfl, hT⟩
  have HT := Aside0.mk hT
  clear hT
  cases ha1 : thereB n4 dp a with
  | false =>
    rw [if_neg (by rw [ha1]; simp)] at hd
    obtain rfl := Option.some.inj hd
    go_wp2_with fail
    refine (there_any HT.out a).mono ?_
    rintro e w3 ⟨rfl, rfl⟩
    rw [ha1]
    go_wp2_with fail
    go_ret
    exact ⟨rfl, HB.out.trans (HT.out.t.below.mono HB.out.size)⟩
  | true =>
    cases hb1 : thereB n4 dp b with
    | false =>
      rw [if_neg (by rw [hb1]; simp)] at hd
      obtain rfl := Option.some.inj hd
      go_wp2_with fail
      refine (there_any HT.out a).mono ?_
      rintro e w3 ⟨rfl, rfl⟩
      rw [ha1]
      go_wp2_with fail
      refine (there_any HT.out b).mono ?_
      rintro e w3 ⟨rfl, rfl⟩
      rw [hb1]
      go_wp2_with fail
      go_ret
      exact ⟨rfl, HB.out.trans (HT.out.t.below.mono HB.out.size)⟩
    | true =>
      rw [if_pos ⟨ha1, hb1⟩] at hd
      obtain ⟨s0, h1, h2⟩ := Option.bind_eq_some_iff.1 hd
      obtain ⟨s, h3, h4⟩ := Option.bind_eq_some_iff.1 h2
      have H1 := Aside0.mk h1
      have H3 := Aside0.mk h3
      have H4 := Aside0.mk h4
      clear hd h1 h2 h3 h4
      go_wp2_with fail
      refine (there_any HT.out a).mono ?_
      rintro e w3 ⟨rfl, rfl⟩
      rw [ha1]
      go_wp2_with fail
      refine (there_any HT.out b).mono ?_
      rintro e w3 ⟨rfl, rfl⟩
      rw [hb1]
      go_wp2_with fail
      refine (up_any HO.out HW.out HT.out k a s0 s ha1 H1.out H3.out).mono ?_
      rintro e w4 ⟨v4, rfl, hS, hT⟩
      obtain ⟨A, c, rfl, hl, hc⟩ := hS
      have HT4 := Aside0.mk hT
      have HC := Aside0.mk hc
      have HL := Aside0.mk hl
      clear hT hc hl
      go_wp2_with fail
      go_loopg [2] k (fun gg s2 wr => ∃ (x : Int) (q : Nat), s2 = .int .i64 x ∧ q ≤ gg ∧ Aside0 (findF n4 ab ha s q x = some r) ∧ Aside0 (Drawn0 w4 wr))
      case atStart => exact ⟨b, k, rfl, Nat.le_refl _, ⟨H4.out⟩, ⟨Drawn0.refl _⟩⟩
      case round =>
        obtain ⟨x, q, rfl, hq, HM, HD⟩ := hrel
        obtain ⟨q, rfl⟩ : ∃ m, q = m + 1 := by
          cases q with
          | zero => have h := HM.out; cases h
          | succ m => exact ⟨m, rfl⟩
        have h := HM.out
        unfold findF at h
        obtain ⟨t, h5, h6⟩ := Option.bind_eq_some_iff.1 h
        have H5 := Aside0.mk h5
        clear h h5
        go_wp2_with fail
        refine (HH.out A c s x t wr H5.out HL.out (Kd.C_below HC.out HD.out.below)).mono ?_
        rintro e w5 ⟨rfl, hd5⟩
        have HD5 := Aside0.mk (show Drawn0 w4 w5 from by obtain ⟨x1, e1⟩ := HD.out.out; obtain ⟨x2, e2⟩ := hd5.out; exact ⟨⟨x1 + x2, by rw [e2, e1]; exact World.drewN_drewN _ _ _⟩⟩)
        have HT5 := Aside0.mk (HT4.out.on HD5.out.below)
        clear hd5
        cases t with
        | true =>
          rw [if_pos rfl] at h6
          obtain rfl := Option.some.inj h6
          go_wp2_with fail
          go_ret
          exact ⟨rfl, HB.out.trans (HT5.out.t.below.mono HB.out.size)⟩
        | false =>
          rw [if_neg (by simp)] at h6
          by_cases hr : 0 ≤ x ∧ x < (n4 : Int)
          · rw [if_pos hr] at h6
            have H6 := Aside0.mk h6
            clear h6
            obtain ⟨x0, x1⟩ := hr
            have t0 : w5.cell? ⟨gt, 0, none⟩ = some (.slice (some ⟨ga, 0, none⟩) n4 n4) := blk_cell HT5.out.t.ct 0
            have ax := HT5.out.cellA x0 x1
            go_wp2_with fail
            go_roundg q
            case measure => omega
            case rel => exact ⟨_, q, rfl, Nat.le_refl _, ⟨H6.out⟩, ⟨HD5.out⟩⟩
          · rw [if_neg hr] at h6
            cases h6
end
end Go.Proofs.Ytcknmcfomkbenaa.H
