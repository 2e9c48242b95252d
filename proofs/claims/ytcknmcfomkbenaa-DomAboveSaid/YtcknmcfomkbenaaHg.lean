/- dom.grow grows the tree as the plain rounds do: for functions of one block or more. -/
import Derived.Test.YtcknmcfomkbenaaHb
import Derived.Test.YtcknmcfomkbenaaDM
import Derived.RegionTactic
import Derived.BigRegion
import Derived.ChangeAlike
import Derived.Deep.DeepCutAuto
namespace Go.Proofs.Ytcknmcfomkbenaa.H
open Go.Proofs.Ytcknmcfomkbenaa.D Go.RowKit Go.Proofs.YtcknmcfomkbenaaW.PrintWords Go.Proofs.YtcknmcfomkbenaaW.PrintLast Go.Proofs.YtcknmcfomkbenaaW.PrintMore
attribute [local go_sem] max2_int min2_int max_two min_two
structure T0 (w0 : World) (F : Array Value) (gf ga gd gt : Nat) (n : Nat) (ab dp : List Int) (w : World) : Prop where
  below : Below w0.heap.size w0 w
  hf : w0.heap.size ≤ gf
  ha : w0.heap.size ≤ ga
  hd : w0.heap.size ≤ gd
  ht : w0.heap.size ≤ gt
  fa : gf ≠ ga
  fd : gf ≠ gd
  ft : gf ≠ gt
  ad : ga ≠ gd
  at_ : ga ≠ gt
  dt : gd ≠ gt
  la : ab.length = n
  ld : dp.length = n
  cf : w.heap[gf]? = some (.cells F 30 (0, 0))
  ca : w.heap[ga]? = some (.cells (ab.map (Value.int .i64)).toArray 3 (0, 0))
  cd : w.heap[gd]? = some (.cells (dp.map (Value.int .i64)).toArray 3 (0, 0))
  ct : w.heap[gt]? = some (.cells #[.slice (some ⟨ga, 0, none⟩) n n, .slice (some ⟨gd, 0, none⟩) n n] 107 (0, 0))
structure T1 (w0 : World) (F : Array Value) (gf ga gd gt gp : Nat) (n : Nat) (ab dp pl : List Int) (w : World) : Prop where
  t : T0 w0 F gf ga gd gt n ab dp w
  hp : w0.heap.size ≤ gp
  pf : gp ≠ gf
  pa : gp ≠ ga
  pd : gp ≠ gd
  pt : gp ≠ gt
  lp : pl.length = n
  cp : w.heap[gp]? = some (.cells (pl.map (Value.int .i64)).toArray 3 (0, 0))
section
variable {w0 : World} {F : Array Value} {gf ga gd gt gp : Nat} {n : Nat} {ab dp pl : List Int} {w w' : World}
theorem T0.on (h : T0 w0 F gf ga gd gt n ab dp w) (hb : Below w.heap.size w w') : T0 w0 F gf ga gd gt n ab dp w' :=
  ⟨h.below.trans (hb.mono h.below.size), h.hf, h.ha, h.hd, h.ht, h.fa, h.fd, h.ft, h.ad, h.at_, h.dt, h.la, h.ld, (hb.block _ (blk_lt h.cf)).trans h.cf, (hb.block _ (blk_lt h.ca)).trans h.ca, (hb.block _ (blk_lt h.cd)).trans h.cd, (hb.block _ (blk_lt h.ct)).trans h.ct⟩
theorem T1.on (h : T1 w0 F gf ga gd gt gp n ab dp pl w) (hb : Below w.heap.size w w') : T1 w0 F gf ga gd gt gp n ab dp pl w' :=
  ⟨h.t.on hb, h.hp, h.pf, h.pa, h.pd, h.pt, h.lp, (hb.block _ (blk_lt h.cp)).trans h.cp⟩
theorem T1.drewN (h : T1 w0 F gf ga gd gt gp n ab dp pl w) (q : Nat) : T1 w0 F gf ga gd gt gp n ab dp pl (w.drewN q) := h.on (pw_below_drewN (Below.refl _ w) q)
theorem ints_at {l : List Int} {b : Int} (h0 : 0 ≤ b) (h1 : b < (l.length : Int)) : (l.map (Value.int .i64)).toArray[b.toNat]? = some (.int .i64 (rd l b)) := by
  unfold rd
  rw [List.getElem?_toArray, List.getElem?_map, List.getD_eq_getElem?_getD, List.getElem?_eq_getElem (by omega)]
  rfl
theorem ints_set {l : List Int} {i : Nat} {v : Int} : ((l.map (Value.int .i64)).toArray.setIfInBounds i (.int .i64 v)) = ((l.set i v).map (Value.int .i64)).toArray := by
  simp [List.map_set]
theorem T1.cellA (h : T1 w0 F gf ga gd gt gp n ab dp pl w) {b : Int} (h0 : 0 ≤ b) (h1 : b < (n : Int)) : w.cell? ⟨ga, b.toNat, none⟩ = some (.int .i64 (rd ab b)) := (blk_cell h.t.ca _).trans (ints_at h0 (by rw [h.t.la]; exact h1))
theorem T1.cellD (h : T1 w0 F gf ga gd gt gp n ab dp pl w) {b : Int} (h0 : 0 ≤ b) (h1 : b < (n : Int)) : w.cell? ⟨gd, b.toNat, none⟩ = some (.int .i64 (rd dp b)) := (blk_cell h.t.cd _).trans (ints_at h0 (by rw [h.t.ld]; exact h1))
theorem T1.cellP (h : T1 w0 F gf ga gd gt gp n ab dp pl w) {b : Int} (h0 : 0 ≤ b) (h1 : b < (n : Int)) : w.cell? ⟨gp, b.toNat, none⟩ = some (.int .i64 (rd pl b)) := (blk_cell h.cp _).trans (ints_at h0 (by rw [h.lp]; exact h1))
theorem T1.setA (h : T1 w0 F gf ga gd gt gp n ab dp pl w) (i : Nat) (v : Int) : T1 w0 F gf ga gd gt gp n (ab.set i v) dp pl (w.setCell ⟨ga, i, none⟩ (.int .i64 v)) := by
  refine ⟨⟨h.t.below.setCell h.t.ha _, h.t.hf, h.t.ha, h.t.hd, h.t.ht, h.t.fa, h.t.fd, h.t.ft, h.t.ad, h.t.at_, h.t.dt, by rw [List.length_set]; exact h.t.la, h.t.ld, ?_, ?_, ?_, ?_⟩, h.hp, h.pf, h.pa, h.pd, h.pt, h.lp, ?_⟩
  · exact blk_far h.t.cf (fun e => h.t.fa e) _
  · rw [blk_set h.t.ca, ints_set]
  · exact blk_far h.t.cd (fun e => h.t.ad e.symm) _
  · exact blk_far h.t.ct (fun e => h.t.at_ e.symm) _
  · exact blk_far h.cp (fun e => h.pa e) _
theorem T1.setD (h : T1 w0 F gf ga gd gt gp n ab dp pl w) (i : Nat) (v : Int) : T1 w0 F gf ga gd gt gp n ab (dp.set i v) pl (w.setCell ⟨gd, i, none⟩ (.int .i64 v)) := by
  refine ⟨⟨h.t.below.setCell h.t.hd _, h.t.hf, h.t.ha, h.t.hd, h.t.ht, h.t.fa, h.t.fd, h.t.ft, h.t.ad, h.t.at_, h.t.dt, h.t.la, by rw [List.length_set]; exact h.t.ld, ?_, ?_, ?_, ?_⟩, h.hp, h.pf, h.pa, h.pd, h.pt, h.lp, ?_⟩
  · exact blk_far h.t.cf (fun e => h.t.fd e) _
  · exact blk_far h.t.ca (fun e => h.t.ad e) _
  · rw [blk_set h.t.cd, ints_set]
  · exact blk_far h.t.ct (fun e => h.t.dt e.symm) _
  · exact blk_far h.cp (fun e => h.pd e) _
theorem T1.setP (h : T1 w0 F gf ga gd gt gp n ab dp pl w) (i : Nat) (v : Int) : T1 w0 F gf ga gd gt gp n ab dp (pl.set i v) (w.setCell ⟨gp, i, none⟩ (.int .i64 v)) := by
  refine ⟨⟨h.t.below.setCell h.hp _, h.t.hf, h.t.ha, h.t.hd, h.t.ht, h.t.fa, h.t.fd, h.t.ft, h.t.ad, h.t.at_, h.t.dt, h.t.la, h.t.ld, ?_, ?_, ?_, ?_⟩, h.hp, h.pf, h.pa, h.pd, h.pt, by rw [List.length_set]; exact h.lp, ?_⟩
  · exact blk_far h.t.cf (fun e => h.pf e.symm) _
  · exact blk_far h.t.ca (fun e => h.pa e.symm) _
  · exact blk_far h.t.cd (fun e => h.pd e.symm) _
  · exact blk_far h.t.ct (fun e => h.pt e.symm) _
  · rw [blk_set h.cp, ints_set]
structure KB (ga gd gp : Nat) (w w' : World) : Prop where
  size : w.heap.size ≤ w'.heap.size
  kept : ∀ i, i < w.heap.size → i ≠ ga → i ≠ gd → i ≠ gp → w'.heap[i]? = w.heap[i]?
theorem KB.refl : KB ga gd gp w w := ⟨Nat.le_refl _, fun _ _ _ _ _ => rfl⟩
theorem KB.on {w2 : World} (h : KB ga gd gp w w') (hb : Below w'.heap.size w' w2) : KB ga gd gp w w2 := ⟨Nat.le_trans h.size hb.size, fun i hi h1 h2 h3 => (hb.block i (Nat.lt_of_lt_of_le hi h.size)).trans (h.kept i hi h1 h2 h3)⟩
theorem KB.set (h : KB ga gd gp w w') {p : Addr} (hp : p.block = ga ∨ p.block = gd ∨ p.block = gp) (v : Value) : KB ga gd gp w (w'.setCell p v) := ⟨by rw [size_set]; exact h.size, fun i hi h1 h2 h3 => (Below.heap_setCell _ _ _ i (fun e => by rcases hp with h4 | h4 | h4 <;> (rw [h4] at e; first | exact h1 e | exact h2 e | exact h3 e))).trans (h.kept i hi h1 h2 h3)⟩
end
theorem zeros_arr (n : Nat) : ((List.replicate n (0 : Int)).map (Value.int .i64)).toArray = Array.replicate n (Value.int .i64 0) := by simp
theorem T0.made (w0 : World) (F : Array Value) (n ga gd : Nat) (h : (ga = w0.heap.size + 1 ∧ gd = w0.heap.size + 1 + 1) ∨ (ga = w0.heap.size + 1 + 1 ∧ gd = w0.heap.size + 1)) :
    T0 w0 F w0.heap.size ga gd (w0.heap.size + 1 + 1 + 1) n (List.replicate n 0) (List.replicate n 0) ((((w0.alloc (.cells F 30)).alloc (.cells (Array.replicate n (Value.int .i64 0)) 3)).alloc (.cells (Array.replicate n (Value.int .i64 0)) 3)).alloc (.cells #[.slice (some ⟨ga, 0, none⟩) n n, .slice (some ⟨gd, 0, none⟩) n n] 107)).drew := by
  have s1 : (w0.alloc (.cells F 30)).heap.size = w0.heap.size + 1 := by simp
  have s2 : ((w0.alloc (.cells F 30)).alloc (.cells (Array.replicate n (Value.int .i64 0)) 3)).heap.size = w0.heap.size + 1 + 1 := by simp
  have s3 : (((w0.alloc (.cells F 30)).alloc (.cells (Array.replicate n (Value.int .i64 0)) 3)).alloc (.cells (Array.replicate n (Value.int .i64 0)) 3)).heap.size = w0.heap.size + 1 + 1 + 1 := by simp
  have b0 := heap_alloc_new w0 (.cells F 30)
  have b1 := heap_alloc_new (w0.alloc (.cells F 30)) (.cells (Array.replicate n (Value.int .i64 0)) 3)
  have b2 := heap_alloc_new ((w0.alloc (.cells F 30)).alloc (.cells (Array.replicate n (Value.int .i64 0)) 3)) (.cells (Array.replicate n (Value.int .i64 0)) 3)
  have b3 := heap_alloc_new (((w0.alloc (.cells F 30)).alloc (.cells (Array.replicate n (Value.int .i64 0)) 3)).alloc (.cells (Array.replicate n (Value.int .i64 0)) 3)) (.cells #[.slice (some ⟨ga, 0, none⟩) n n, .slice (some ⟨gd, 0, none⟩) n n] 107)
  rw [s1] at b1
  rw [s2] at b2
  rw [s3] at b3
  have hb := ((((Below.refl w0.heap.size w0).alloc (Nat.le_refl _) (.cells F 30)).alloc (by rw [s1]; omega) (.cells (Array.replicate n (Value.int .i64 0)) 3)).alloc (by rw [s2]; omega) (.cells (Array.replicate n (Value.int .i64 0)) 3)).alloc (by rw [s3]; omega) (.cells #[.slice (some ⟨ga, 0, none⟩) n n, .slice (some ⟨gd, 0, none⟩) n n] 107)
  refine ⟨below_drew hb, by omega, by omega, by omega, by omega, by omega, by omega, by omega, by omega, by omega, by omega, by simp, by simp, blk_drew (blk_alloc (blk_alloc (blk_alloc b0 _) _) _), ?_, ?_, blk_drew b3⟩
  · rw [zeros_arr]
    rcases h with ⟨rfl, rfl⟩ | ⟨rfl, rfl⟩
    · exact blk_drew (blk_alloc (blk_alloc b1 _) _)
    · exact blk_drew (blk_alloc b2 _)
  · rw [zeros_arr]
    rcases h with ⟨rfl, rfl⟩ | ⟨rfl, rfl⟩
    · exact blk_drew (blk_alloc b2 _)
    · exact blk_drew (blk_alloc (blk_alloc b1 _) _)
def Tree (w0 : World) (F : Array Value) (n : Nat) (ab dp : List Int) (v : Value) (w : World) : Prop := ∃ (gf ga gd gt gp : Nat) (pl : List Int), v = .pointer (some ⟨gt, 0, none⟩) ∧ T1 w0 F gf ga gd gt gp n ab dp pl w
theorem T1.start {w0 : World} {F : Array Value} {gf ga gd gt : Nat} {n : Nat} {ab dp : List Int} {w : World} (h : T0 w0 F gf ga gd gt n ab dp w) : T1 w0 F gf ga gd gt w.heap.size n ab dp (List.replicate n 0) (w.alloc (.cells (Array.replicate n (Value.int .i64 0)) 3)) := by
  have l1 := blk_lt h.cf
  have l2 := blk_lt h.ca
  have l3 := blk_lt h.cd
  have l4 := blk_lt h.ct
  refine ⟨h.on ((Below.refl _ _).alloc (Nat.le_refl _) _), h.below.size, by omega, by omega, by omega, by omega, by simp, ?_⟩
  rw [zeros_arr]
  exact heap_alloc_new _ _
theorem R_row {B : Nat} {P : Nat → Prop} {w1 : World} {v : Value} {xs : List Int} (h : Kd.R (Kd.int .i64) 3 w1 B P v xs) (hp : 0 < xs.length) : ∃ gv c, v = .slice (some ⟨gv, 0, none⟩) xs.length c ∧ B ≤ gv ∧ gv < w1.heap.size ∧ xs.length ≤ c ∧ c ≤ maxLen ∧ ∀ w2 : World, w2.heap[gv]? = w1.heap[gv]? → ∀ j (hj : j < xs.length), w2.cell? ⟨gv, j, none⟩ = some (.int .i64 xs[j]) := by
  obtain ⟨_, inner, hown, hr⟩ := h
  rcases hown.2 with ⟨rfl, hn⟩ | ⟨gv, cap, cur, rfl, hg, hb, h1, h2, h3, h4⟩
  · omega
  · refine ⟨gv, cap, rfl, hg, blk_lt hb, h1, h2, fun w2 hw2 j hj => ?_⟩
    have h5 : (inner.drop (j * 1)).take 1 = [Value.int .i64 xs[j]] := hr.2 j _ (List.getElem?_eq_getElem hj)
    have h6 : inner[j]? = some (Value.int .i64 xs[j]) := by
      have h7 : ((inner.drop (j * 1)).take 1)[0]? = inner[j]? := by
        rw [List.getElem?_take, if_pos (by omega), List.getElem?_drop]
        simp
      rw [← h7, h5]
      rfl
    have h8 : cur.toList[j]? = some (Value.int .i64 xs[j]) := by
      have h9 : (cur.toList.take (xs.length * 1))[j]? = inner[j]? := by rw [← h4]; rfl
      rw [List.getElem?_take, if_pos (by omega)] at h9
      rw [h9, h6]
    rw [blk_cell (w := w2) (hw2.trans hb) j]
    simpa using h8
theorem KB.drawn {ga gd gp : Nat} {w w' w2 : World} (h : KB ga gd gp w w') (hd : Drawn0 w' w2) : KB ga gd gp w w2 := h.on hd.below
theorem T1.drawn {w0 : World} {F : Array Value} {gf ga gd gt gp : Nat} {n : Nat} {ab dp pl : List Int} {w w2 : World} (h : T1 w0 F gf ga gd gt gp n ab dp pl w) (hd : Drawn0 w w2) : T1 w0 F gf ga gd gt gp n ab dp pl w2 := h.on hd.below
set_option maxRecDepth 100000 in
set_option maxHeartbeats 8000000 in
theorem grow_any {w0 : World} {A0 A1 A4 : Option Addr} {n0 c0 n1 c1 n4 c4 : Nat} {a2 a3 : Int} (order : List Int) (prev : Int → List Int) (kf k : Nat) (ab dp : List Int)
    (hO : ∀ w1 : World, Below w0.heap.size w0 w1 → Calls Try.prog 30 #[.agg #[.slice A0 n0 c0, .slice A1 n1 c1, .int .i64 a2, .int .i64 a3, .slice A4 n4 c4]] w1 fun e w' => ∃ v, e = .returned v ∧ Kd.R (Kd.int .i64) 3 w' w1.heap.size (fun _ => True) v order ∧ Below w1.heap.size w1 w')
    (hP : ∀ (w1 : World) (b : Int), Below w0.heap.size w0 w1 → 0 ≤ b → b < (n4 : Int) → Calls Try.prog 21 #[.agg #[.slice A0 n0 c0, .slice A1 n1 c1, .int .i64 a2, .int .i64 a3, .slice A4 n4 c4], .int .i64 b] w1 fun e w' => ∃ v, e = .returned v ∧ Kd.R (Kd.int .i64) 3 w' w1.heap.size (fun _ => True) v (prev b) ∧ Below w1.heap.size w1 w')
    (hM : ∀ (ab pl : List Int) (a b m : Int) (ga gp : Nat) (w1 : World), ab.length = n4 → pl.length = n4 → w1.heap[ga]? = some (.cells (ab.map (Value.int .i64)).toArray 3 (0, 0)) → w1.heap[gp]? = some (.cells (pl.map (Value.int .i64)).toArray 3 (0, 0)) → meetF n4 ab pl kf a b = some m →
      Calls Try.prog 108 #[.slice (some ⟨ga, 0, none⟩) n4 n4, .slice (some ⟨gp, 0, none⟩) n4 n4, .int .i64 a, .int .i64 b] w1 fun e w' => e = .returned (.int .i64 m) ∧ Drawn0 w1 w')
    (hb : n4 ≤ 35184372088832) (h : growF n4 order prev kf k = some (ab, dp)) :
    Calls Try.prog 79 #[.agg #[.slice A0 n0 c0, .slice A1 n1 c1, .int .i64 a2, .int .i64 a3, .slice A4 n4 c4]] w0 fun e w' => ∃ v : Value, e = .returned v ∧ Tree w0 #[.slice A0 n0 c0, .slice A1 n1 c1, .int .i64 a2, .int .i64 a3, .slice A4 n4 c4] n4 ab dp v w' := by
  have HO := Aside0.mk hO
  have HP := Aside0.mk hP
  have HM := Aside0.mk hM
  have HH := Aside0.mk h
  clear hO hP hM h
  have i4 : (Try.prog.info? 3).map (fun i => (i.zero, i.size, i.bytes)) = some (some (.int .i64 0), 1, 8) := by kernel_rfl
  obtain ⟨i0, hi, hz0, hz1, hz2⟩ := info_parts i4
  have hmk : ∀ W : World, (Instr.makeSlice 27 (.int .i64 (n4 : Int)) (.int .i64 (n4 : Int))).run Try.prog W = .ok (.slice (some ⟨W.heap.size, 0, none⟩) n4 n4) (W.alloc (.cells ((List.replicate n4 (0 : Int)).map (Value.int .i64)).toArray 3)) := by
    intro W
    have h := run_make (P := Try.prog) W 27 3 i0 (.int .i64 0) Try.underlying27 hi hz0 .i64 .i64 (n4 : Int) (n4 : Int) (by omega) (by omega) (by rw [hz2]; omega) (by omega)
    rw [h, Int.toNat_natCast, hz1, Nat.mul_one]
    have e : madeCells (Value.int .i64 0).cells n4 = ((List.replicate n4 (0 : Int)).map (Value.int .i64)).toArray := by
      apply Array.ext'
      rw [show (Value.int .i64 0).cells = #[Value.int .i64 0] from rfl, toList_madeCells_one]
      simp
    rw [e]
  clear hi hz0 hz1 hz2 i4
  go_enter Try.func79, Try.ntmps79
  go_upto_region 2 with fail
  go_cut [4] (fun t4 wc => ∃ ga gd gt : Nat, t4 = .pointer (some ⟨gt, 0, none⟩) ∧ Aside0 (T0 w0 #[.slice A0 n0 c0, .slice A1 n1 c1, .int .i64 a2, .int .i64 a3, .slice A4 n4 c4] w0.heap.size ga gd gt n4 (List.replicate n4 0) (List.replicate n4 0) wc))
  case first =>
    go_region
    all_goals (go_wp2_with fail; go_meet)
    case rel => exact ⟨_, _, _, rfl, ⟨T0.made w0 _ n4 (w0.heap.size + 1) (w0.heap.size + 1 + 1) (.inl ⟨rfl, rfl⟩)⟩⟩
    case rel => exact ⟨_, _, _, rfl, ⟨T0.made w0 _ n4 (w0.heap.size + 1 + 1) (w0.heap.size + 1) (.inr ⟨rfl, rfl⟩)⟩⟩
  case rest =>
    obtain ⟨ga, gd, gt, rfl, H0⟩ := hcut
    go_wp2_with fail
    have hS := Aside0.mk (T1.start H0.out)
    clear hmk H0
    generalize wc.alloc (.cells (Array.replicate n4 (Value.int .i64 0)) 3) = w1 at hS ⊢
    generalize wc.heap.size = gp at hS ⊢
    go_loopg [30] n4 (fun gg s30 wr => ∃ i : Nat, s30 = .int .i64 i ∧ i ≤ n4 ∧ n4 - i ≤ gg ∧ Aside0 (T1 w0 #[.slice A0 n0 c0, .slice A1 n1 c1, .int .i64 a2, .int .i64 a3, .slice A4 n4 c4] w0.heap.size ga gd gt gp n4 (initL i n4) (initL i n4) (initL i n4) wr))
    case atStart => exact ⟨0, rfl, Nat.zero_le _, by omega, ⟨by have h := hS.out; simp only [initL, List.replicate_zero, List.nil_append, Nat.sub_zero]; exact h⟩⟩
    case round =>
      obtain ⟨i, rfl, hi, hgg, HT⟩ := hrel
      by_cases hlt : i < n4
      · have t0 : wr.cell? ⟨gt, 0, none⟩ = some (.slice (some ⟨ga, 0, none⟩) n4 n4) := blk_cell HT.out.t.ct 0
        have t1 : wr.cell? ⟨gt, 1, none⟩ = some (.slice (some ⟨gd, 0, none⟩) n4 n4) := blk_cell HT.out.t.ct 1
        have hltz : (i : Int) < (n4 : Int) := by omega
        have ca := HT.out.cellA (b := (i : Int)) (by omega) hltz
        have cd := HT.out.cellD (b := (i : Int)) (by omega) hltz
        have cp := HT.out.cellP (b := (i : Int)) (by omega) hltz
        rw [Int.toNat_natCast] at ca cd cp
        have fa := blk_frozen HT.out.t.ca i
        have fd := blk_frozen HT.out.t.cd i
        have fp := blk_frozen HT.out.cp i
        have e1 : ga ≠ gd := HT.out.t.ad
        have e2 : gd ≠ ga := fun e => e1 e.symm
        have e3 : gp ≠ ga := HT.out.pa
        have e4 : ga ≠ gp := fun e => e3 e.symm
        have e5 : gp ≠ gd := HT.out.pd
        have e6 : gd ≠ gp := fun e => e5 e.symm
        go_wp2_with fail
        go_region
        clear t0 t1 ca cd cp fa fd fp e1 e2 e3 e4 e5 e6
        go_wp2_with fail
        go_roundg (n4 - (i + 1))
        case measure => omega
        case rel =>
          have h := (((HT.out.setA i (-1)).setD i (-1)).setP i (-1)).drewN 1
          rw [initL_set hlt] at h
          exact ⟨i + 1, congrArg (Value.int .i64) (by first | omega | (unfold wrap64; omega)), by omega, Nat.le_refl _, ⟨h⟩⟩
      · have HT2 := Aside0.mk (show T1 w0 _ _ ga gd gt gp n4 (List.replicate n4 (-1)) (List.replicate n4 (-1)) (List.replicate n4 (-1)) wr from by have h := HT.out; rw [show i = n4 by omega, initL_all] at h; exact h)
        clear HT hS
        have k0 : wr.cell? ⟨w0.heap.size, 0, none⟩ = some (.slice A0 n0 c0) := blk_cell HT2.out.t.cf 0
        have k1 : wr.cell? ⟨w0.heap.size, 1, none⟩ = some (.slice A1 n1 c1) := blk_cell HT2.out.t.cf 1
        have k2 : wr.cell? ⟨w0.heap.size, 2, none⟩ = some (.int .i64 a2) := blk_cell HT2.out.t.cf 2
        have k3 : wr.cell? ⟨w0.heap.size, 3, none⟩ = some (.int .i64 a3) := blk_cell HT2.out.t.cf 3
        have k4 : wr.cell? ⟨w0.heap.size, 4, none⟩ = some (.slice A4 n4 c4) := blk_cell HT2.out.t.cf 4
        go_wp2_with fail
        refine (HO.out wr HT2.out.t.below).mono ?_
        rintro e w2 ⟨v, rfl, hR, hB⟩
        clear k0 k1 k2 k3 k4
        obtain ⟨hall, hpos, hbig, hgrow⟩ : (order.all (fun b => decide (0 ≤ b ∧ b < (n4 : Int))) = true) ∧ 0 < order.length ∧ order.length ≤ 8796093022208 ∧ (∃ ab1, loopF n4 (placeL (List.replicate n4 (-1)) 0 order) kf prev (order.drop 1) k (List.replicate n4 (-1)) = some ab1 ∧ deepF n4 ab1 ((List.replicate n4 (-1)).set (rd order 0).toNat 0) (order.drop 1) = some dp ∧ ab1 = ab) := by
          have h := HH.out
          unfold growF at h
          by_cases hc : order.all (fun b => decide (0 ≤ b ∧ b < (n4 : Int))) = true ∧ 0 < order.length ∧ order.length ≤ 8796093022208
          · rw [if_pos hc] at h
            obtain ⟨ab1, h1, h2⟩ := Option.bind_eq_some_iff.1 h
            obtain ⟨dp1, h3, h4⟩ := Option.map_eq_some_iff.1 h2
            injection h4 with h5 h6
            exact ⟨hc.1, hc.2.1, hc.2.2, ab1, h1, by rw [h3, h6], h5⟩
          · rw [if_neg hc] at h
            cases h
        have hrange : ∀ b ∈ order, 0 ≤ b ∧ b < (n4 : Int) := fun b hb => of_decide_eq_true (List.all_eq_true.1 hall b hb)
        have HRG := Aside0.mk hrange
        obtain ⟨PL, hPL⟩ : ∃ PL, placeL (List.replicate n4 (-1)) 0 order = PL := ⟨_, rfl⟩
        rw [hPL] at hgrow
        have HPD := Aside0.mk hPL
        have HG := Aside0.mk hgrow
        clear hPL
        obtain ⟨gv, cv, rfl, hgv1, hgv2, hcv, hcv2, hvr⟩ := R_row hR hpos
        have HV := Aside0.mk hvr
        have HT3 := Aside0.mk (HT2.out.on hB)
        have hga : gv ≠ ga := fun e => by have := blk_lt HT2.out.t.ca; omega
        have hgd : gv ≠ gd := fun e => by have := blk_lt HT2.out.t.cd; omega
        have hgp : gv ≠ gp := fun e => by have := blk_lt HT2.out.cp; omega
        have GVL := Aside0.mk (And.intro hgv2 (And.intro hga (And.intro hgd hgp)))
        simp only [maxLen] at hcv2
        clear hall hgrow hrange hvr hR hB HT2 hga hgd hgp hgv1 hgv2 HH
        go_wp2_with fail
        go_loopg [53] order.length (fun gg s53 wx => ∃ j : Nat, s53 = .int .i64 j ∧ j ≤ order.length ∧ order.length - j ≤ gg ∧ Aside0 (∃ pl, T1 w0 #[.slice A0 n0 c0, .slice A1 n1 c1, .int .i64 a2, .int .i64 a3, .slice A4 n4 c4] w0.heap.size ga gd gt gp n4 (List.replicate n4 (-1)) (List.replicate n4 (-1)) pl wx ∧ placeL pl j (order.drop j) = PL) ∧ Aside0 (KB ga gd gp w2 wx))
        case atStart => exact ⟨0, rfl, Nat.zero_le _, by omega, ⟨_, HT3.out, by rw [List.drop_zero]; exact HPD.out⟩, ⟨KB.refl⟩⟩
        case round =>
          obtain ⟨j, rfl, hj, hgg, HP1, HK⟩ := hrel
          by_cases hlt2 : j < order.length
          · have hltz : (j : Int) < (order.length : Int) := by omega
            obtain ⟨⟨pl, hT, hpl⟩⟩ := HP1
            have hb2 := HRG.out _ (List.getElem_mem hlt2)
            have hc := HV.out wr (HK.out.kept gv GVL.out.1 GVL.out.2.1 GVL.out.2.2.1 GVL.out.2.2.2) j hlt2
            rw [List.drop_eq_getElem_cons hlt2] at hpl
            unfold placeL at hpl
            generalize order[j] = b at hb2 hc hpl
            obtain ⟨b0, b1⟩ := hb2
            have cp := hT.cellP b0 b1
            have fp := blk_frozen hT.cp b.toNat
            have HT := Aside0.mk hT
            have HPL := Aside0.mk hpl
            clear hT hpl
            go_wp2_with fail
            go_roundg (order.length - (j + 1))
            case measure => omega
            case rel => exact ⟨j + 1, congrArg (Value.int .i64) (by first | omega | (unfold wrap64; omega)), by omega, Nat.le_refl _, ⟨_, HT.out.setP b.toNat (j : Int), HPL.out⟩, ⟨HK.out.set (.inr (.inr rfl)) _⟩⟩
          · obtain ⟨⟨pl, hT, hpl⟩⟩ := HP1
            rw [List.drop_of_length_le (by omega)] at hpl
            unfold placeL at hpl
            have HT := Aside0.mk hT
            have HPL := Aside0.mk hpl
            clear hT hpl HT3
            obtain ⟨ab1, hl1, hd1, rfl⟩ := HG.out
            have HL1 := Aside0.mk hl1
            have HD1 := Aside0.mk hd1
            clear HG hl1 hd1
            have e := HPL.out
            subst e
            clear HPL
            go_wp2_with fail
            go_loopg [10] (k + 2) (fun gg s10 wx => ∃ (kk : Nat) (ch : Bool), s10 = .bool ch ∧ kk + 1 ≤ gg ∧ Aside0 (∃ abx, T1 w0 #[.slice A0 n0 c0, .slice A1 n1 c1, .int .i64 a2, .int .i64 a3, .slice A4 n4 c4] w0.heap.size ga gd gt gp n4 abx (List.replicate n4 (-1)) pl wx ∧ (ch = true → loopF n4 pl kf prev (order.drop 1) kk abx = some ab1) ∧ (ch = false → abx = ab1)) ∧ Aside0 (KB ga gd gp w2 wx))
            case atStart => exact ⟨k, true, rfl, by omega, ⟨_, HT.out, fun _ => HL1.out, fun h => (by cases h)⟩, ⟨HK.out⟩⟩
            case round =>
              obtain ⟨kk, ch, rfl, hgg, HP1, HK⟩ := hrel
              cases ch with
              | true =>
                obtain ⟨⟨abx, hT, hL, _⟩⟩ := HP1
                have hL2 := hL rfl
                clear hL
                obtain ⟨m, rfl⟩ : ∃ m, kk = m + 1 := by
                  cases kk with
                  | zero => cases hL2
                  | succ m => exact ⟨m, rfl⟩
                unfold loopF at hL2
                obtain ⟨⟨ab2, ch2⟩, hp, h3⟩ := Option.bind_eq_some_iff.1 hL2
                have HT := Aside0.mk hT
                have HPS := Aside0.mk hp
                have HNX := Aside0.mk h3
                clear hT hp h3 hL2
                by_cases hcap : 1 < cv
                · go_wp2_with fail
                  go_loopg [10, 70] order.length (fun gg s10 s70 wx => ∃ (j : Nat) (chj : Bool), s10 = .bool chj ∧ s70 = .int .i64 j ∧ j ≤ order.length - 1 ∧ order.length - 1 - j ≤ gg ∧ Aside0 (∃ abj, T1 w0 #[.slice A0 n0 c0, .slice A1 n1 c1, .int .i64 a2, .int .i64 a3, .slice A4 n4 c4] w0.heap.size ga gd gt gp n4 abj (List.replicate n4 (-1)) pl wx ∧ passF n4 pl kf prev abj chj ((order.drop 1).drop j) = some (ab2, ch2)) ∧ Aside0 (KB ga gd gp w2 wx))
                  case atStart => exact ⟨0, false, rfl, rfl, Nat.zero_le _, by omega, ⟨_, HT.out, by rw [List.drop_zero]; exact HPS.out⟩, ⟨HK.out⟩⟩
                  case round =>
                    obtain ⟨q, chj, rfl, rfl, hq, hgg2, HP2, HK⟩ := hrel
                    by_cases hlt3 : q < order.length - 1
                    · obtain ⟨⟨abj, hT, hps⟩⟩ := HP2
                      have hltz : (q : Int) < ((order.length - 1 : Nat) : Int) := by omega
                      have hq1 : 1 + q < order.length := by omega
                      have hbr := HRG.out _ (List.getElem_mem hq1)
                      have hc := HV.out wr (HK.out.kept gv GVL.out.1 GVL.out.2.1 GVL.out.2.2.1 GVL.out.2.2.2) (1 + q) hq1
                      rw [List.drop_drop, List.drop_eq_getElem_cons hq1] at hps
                      unfold passF at hps
                      generalize order[1 + q] = b at hbr hc hps
                      rw [if_pos hbr] at hps
                      obtain ⟨v, hnx, hps2⟩ := Option.bind_eq_some_iff.1 hps
                      obtain ⟨b0, b1⟩ := hbr
                      have HT6 := Aside0.mk hT
                      have HNX2 := Aside0.mk hnx
                      have HPS2 := Aside0.mk hps2
                      have k0 : wr.cell? ⟨w0.heap.size, 0, none⟩ = some (.slice A0 n0 c0) := blk_cell hT.t.cf 0
                      have k1 : wr.cell? ⟨w0.heap.size, 1, none⟩ = some (.slice A1 n1 c1) := blk_cell hT.t.cf 1
                      have k2 : wr.cell? ⟨w0.heap.size, 2, none⟩ = some (.int .i64 a2) := blk_cell hT.t.cf 2
                      have k3 : wr.cell? ⟨w0.heap.size, 3, none⟩ = some (.int .i64 a3) := blk_cell hT.t.cf 3
                      have k4 : wr.cell? ⟨w0.heap.size, 4, none⟩ = some (.slice A4 n4 c4) := blk_cell hT.t.cf 4
                      clear hT hnx hps hps2
                      go_wp2_with fail
                      refine (HP.out wr b HT6.out.t.below b0 b1).mono ?_
                      rintro e w5 ⟨vp, rfl, hR5, hB5⟩
                      clear k0 k1 k2 k3 k4 hc
                      obtain ⟨hbig5, Ap, cp5, rfl, hrp⟩ := R_reads hR5
                      have HRP := Aside0.mk hrp
                      have HT5 := Aside0.mk (HT6.out.on hB5)
                      have HK5 := Aside0.mk (HK.out.on hB5)
                      clear hrp hR5 hB5
                      go_wp2_with fail
                      go_loopg [13, 78] (prev b).length (fun gg s13 s78 wx => ∃ (z : Nat) (u : Int), s13 = .int .i64 u ∧ s78 = .int .i64 z ∧ z ≤ (prev b).length ∧ (prev b).length - z ≤ gg ∧ Aside0 (nextOf n4 abj pl kf u ((prev b).drop z) = some v) ∧ Aside0 (Drawn0 w5 wx))
                      case atStart => exact ⟨0, -1, rfl, rfl, Nat.zero_le _, by omega, ⟨by rw [List.drop_zero]; exact HNX2.out⟩, ⟨Drawn0.refl _⟩⟩
                      case round =>
                        obtain ⟨z, u, rfl, rfl, hz, hgg3, HN, HD⟩ := hrel
                        by_cases hlt4 : z < (prev b).length
                        · have hltz4 : (z : Int) < ((prev b).length : Int) := by omega
                          obtain ⟨gq, rfl, _, hgq2, hcell⟩ := HRP.out z hlt4
                          have hc5 := hcell wr (HD.out.below.block gq hgq2)
                          clear hcell
                          have hn := HN.out
                          rw [List.drop_eq_getElem_cons hlt4] at hn
                          unfold nextOf at hn
                          generalize (prev b)[z] = a at hc5 hn
                          by_cases ha : 0 ≤ a ∧ a < (n4 : Int)
                          · rw [if_pos ha] at hn
                            obtain ⟨a0, a1⟩ := ha
                            have HTz := Aside0.mk (HT5.out.drawn HD.out)
                            have cpz := HTz.out.cellP a0 a1
                            have caz := HTz.out.cellA a0 a1
                            have t0 : wr.cell? ⟨gt, 0, none⟩ = some (.slice (some ⟨ga, 0, none⟩) n4 n4) := blk_cell HTz.out.t.ct 0
                            by_cases h1 : rd pl a < 0
                            · rw [if_pos h1] at hn
                              have HN2 := Aside0.mk hn
                              have d1 : decide (rd pl a < 0) = true := decide_eq_true h1
                              clear hn
                              go_wp2_with fail
                              go_roundg ((prev b).length - (z + 1))
                              case measure => omega
                              case rel => exact ⟨z + 1, u, rfl, congrArg (Value.int .i64) (by first | omega | (unfold wrap64; omega)), by omega, Nat.le_refl _, ⟨HN2.out⟩, ⟨HD.out⟩⟩
                            · rw [if_neg h1] at hn
                              have d1 : decide (rd pl a < 0) = false := decide_eq_false h1
                              by_cases h2 : a ≠ 0 ∧ rd abj a < 0
                              · rw [if_pos h2] at hn
                                have HN2 := Aside0.mk hn
                                obtain ⟨h2a, h2b⟩ := h2
                                have d2 : (a != 0) = true := bne_iff_ne.2 h2a
                                have d3 : decide (rd abj a < 0) = true := decide_eq_true h2b
                                clear hn
                                go_wp2_with fail
                                go_roundg ((prev b).length - (z + 1))
                                case measure => omega
                                case rel => exact ⟨z + 1, u, rfl, congrArg (Value.int .i64) (by first | omega | (unfold wrap64; omega)), by omega, Nat.le_refl _, ⟨HN2.out⟩, ⟨HD.out⟩⟩
                              · rw [if_neg h2] at hn
                                have d23 : (a != 0) = false ∨ ((a != 0) = true ∧ decide (rd abj a < 0) = false) := by
                                  by_cases h5 : a = 0
                                  · exact .inl (by rw [h5]; rfl)
                                  · exact .inr ⟨bne_iff_ne.2 h5, decide_eq_false (fun h6 => h2 ⟨h5, h6⟩)⟩
                                by_cases h3 : u < 0
                                · rw [if_pos h3] at hn
                                  have HN2 := Aside0.mk hn
                                  have d4 : decide (u < 0) = true := decide_eq_true h3
                                  clear hn h2
                                  rcases d23 with d2 | ⟨d2, d3⟩
                                  all_goals
                                    go_wp2_with fail
                                    go_roundg ((prev b).length - (z + 1))
                                    case measure => omega
                                    case rel => exact ⟨z + 1, a, rfl, congrArg (Value.int .i64) (by first | omega | (unfold wrap64; omega)), by omega, Nat.le_refl _, ⟨HN2.out⟩, ⟨HD.out⟩⟩
                                · rw [if_neg h3] at hn
                                  obtain ⟨mm, hm1, hm2⟩ := Option.bind_eq_some_iff.1 hn
                                  have HN2 := Aside0.mk hm2
                                  have HM2 := Aside0.mk hm1
                                  have d4 : decide (u < 0) = false := decide_eq_false h3
                                  clear hn h2 hm1 hm2
                                  rcases d23 with d2 | ⟨d2, d3⟩
                                  all_goals
                                    go_wp2_with fail
                                    refine (HM.out abj pl u a mm ga gp _ HTz.out.t.la HTz.out.lp HTz.out.t.ca HTz.out.cp HM2.out).mono ?_
                                    rintro e w6 ⟨rfl, hd6⟩
                                    have HD6 := Aside0.mk (show Drawn0 w5 w6 from by obtain ⟨x1, e1⟩ := HD.out.out; obtain ⟨x2, e2⟩ := hd6.out; exact ⟨⟨x1 + x2, by rw [e2, e1]; exact World.drewN_drewN _ _ _⟩⟩)
                                    clear hd6
                                    go_wp2_with fail
                                    go_roundg ((prev b).length - (z + 1))
                                    case measure => omega
                                    case rel => exact ⟨z + 1, mm, rfl, congrArg (Value.int .i64) (by first | omega | (unfold wrap64; omega)), by omega, Nat.le_refl _, ⟨HN2.out⟩, ⟨HD6.out⟩⟩
                          · rw [if_neg ha] at hn
                            cases hn
                        · have hn := HN.out
                          rw [List.drop_of_length_le (by omega)] at hn
                          unfold nextOf at hn
                          have hn := Option.some.inj hn
                          subst hn
                          have HTz := Aside0.mk (HT5.out.drawn HD.out)
                          have caz := HTz.out.cellA b0 b1
                          have faz := blk_frozen HTz.out.t.ca b.toNat
                          have t0 : wr.cell? ⟨gt, 0, none⟩ = some (.slice (some ⟨ga, 0, none⟩) n4 n4) := blk_cell HTz.out.t.ct 0
                          have HKz := Aside0.mk (HK5.out.drawn HD.out)
                          cases chj
                          all_goals
                            go_wp2_with fail
                            go_roundg (order.length - 1 - (q + 1))
                            case measure => omega
                            case rel => exact ⟨q + 1, _, rfl, congrArg (Value.int .i64) (by first | omega | (unfold wrap64; omega)), by omega, Nat.le_refl _, ⟨_, HTz.out.setA b.toNat u, by rw [List.drop_drop, ← Nat.add_assoc]; exact HPS2.out⟩, ⟨HKz.out.set (.inl rfl) _⟩⟩
                    · obtain ⟨⟨abj, hT, hps⟩⟩ := HP2
                      rw [List.drop_of_length_le (by rw [List.length_drop]; omega)] at hps
                      unfold passF at hps
                      injection hps with hps
                      injection hps with e1 e2
                      subst e1
                      subst e2
                      have HT6 := Aside0.mk hT
                      clear hT
                      go_wp2_with fail
                      go_roundg (m + 1)
                      case measure => omega
                      case rel =>
                        refine ⟨m, _, rfl, Nat.le_refl _, ⟨_, HT6.out, fun h => ?_, fun h => ?_⟩, ⟨HK.out⟩⟩
                        · have h3 := HNX.out
                          rw [if_pos h] at h3
                          exact h3
                        · have h3 := HNX.out
                          rw [if_neg (by rw [h]; simp)] at h3
                          exact Option.some.inj h3
                · have hcap1 : cv = 1 := by omega
                  have hol : order.length = 1 := by omega
                  have e1 : abx = ab2 ∧ false = ch2 := by
                    have h := HPS.out
                    rw [List.drop_of_length_le (by omega)] at h
                    unfold passF at h
                    injection h with h
                    injection h with h1 h2
                    exact ⟨h1, h2⟩
                  obtain ⟨e1, e2⟩ := e1
                  subst e1
                  subst e2
                  have ez : abx = ab1 := by
                    have h3 := HNX.out
                    rw [if_neg (by simp)] at h3
                    exact Option.some.inj h3
                  subst ez
                  have HOL := Aside0.mk hol
                  have hlz : ¬ ((0 : Int) < ((order.length - 1 : Nat) : Int)) := by omega
                  clear HNX HPS hol hcap1
                  go_wp2_with fail
                  go_loopg [10, 70] 0 (fun gg s10 s70 wx => s10 = .bool false ∧ s70 = .int .i64 0 ∧ Aside0 (wx = wr))
                  case atStart => exact ⟨rfl, rfl, ⟨rfl⟩⟩
                  case round =>
                    obtain ⟨rfl, rfl, HW⟩ := hrel
                    have e := HW.out
                    subst e
                    clear HW
                    go_wp2_with fail
                    go_roundg (m + 1)
                    case measure => omega
                    case rel => exact ⟨m, false, rfl, Nat.le_refl _, ⟨_, HT.out, fun h => (by cases h), fun _ => rfl⟩, ⟨HK.out⟩⟩
              | false =>
                obtain ⟨⟨abx, hT, _, hE⟩⟩ := HP1
                obtain rfl := hE rfl
                have HT := Aside0.mk hT
                clear hT hE
                go_wp2_with fail
                go_loopg [137] order.length (fun gg s137 wx => ∃ j : Nat, s137 = .int .i64 j ∧ j ≤ order.length ∧ order.length - j ≤ gg ∧ Aside0 (∃ dpj, T1 w0 #[.slice A0 n0 c0, .slice A1 n1 c1, .int .i64 a2, .int .i64 a3, .slice A4 n4 c4] w0.heap.size ga gd gt gp n4 abx dpj pl wx ∧ ((j = 0 ∧ dpj = List.replicate n4 (-1)) ∨ (1 ≤ j ∧ deepF n4 abx dpj (order.drop j) = some dp))) ∧ Aside0 (KB ga gd gp w2 wx))
                case atStart => exact ⟨0, rfl, Nat.zero_le _, by omega, ⟨_, HT.out, .inl ⟨rfl, rfl⟩⟩, ⟨HK.out⟩⟩
                case round =>
                  obtain ⟨j, rfl, hj, hgg, HP2, HK⟩ := hrel
                  obtain ⟨⟨dpj, hT, hor⟩⟩ := HP2
                  have HT := Aside0.mk hT
                  clear hT
                  by_cases hlt2 : j < order.length
                  · have hltz : (j : Int) < (order.length : Int) := by omega
                    have hbr := HRG.out _ (List.getElem_mem hlt2)
                    have hc := HV.out wr (HK.out.kept gv GVL.out.1 GVL.out.2.1 GVL.out.2.2.1 GVL.out.2.2.2) j hlt2
                    have t0 : wr.cell? ⟨gt, 0, none⟩ = some (.slice (some ⟨ga, 0, none⟩) n4 n4) := blk_cell HT.out.t.ct 0
                    have t1 : wr.cell? ⟨gt, 1, none⟩ = some (.slice (some ⟨gd, 0, none⟩) n4 n4) := blk_cell HT.out.t.ct 1
                    by_cases hj0 : j = 0
                    · have hor := hor.resolve_right (fun h => by omega)
                      obtain ⟨_, rfl⟩ := hor
                      subst hj0
                      simp only [show ((0 : Nat) : Int) = 0 from rfl]
                      have hb0 : rd order 0 = order[0] := by
                        unfold rd
                        rw [List.getD_eq_getElem?_getD, show (0 : Int).toNat = 0 from rfl, List.getElem?_eq_getElem hlt2]
                        rfl
                      have HB0 := Aside0.mk hb0
                      generalize hbb : order[0] = b at hbr hc hb0
                      have HBB := Aside0.mk hbb
                      clear hbb hb0
                      obtain ⟨b0, b1⟩ := hbr
                      have cdb := HT.out.cellD b0 b1
                      have fdb := blk_frozen HT.out.t.cd b.toNat
                      go_wp2_with fail
                      go_roundg (order.length - (0 + 1))
                      case measure => omega
                      case rel =>
                        refine ⟨0 + 1, congrArg (Value.int .i64) (by first | omega | (unfold wrap64; omega)), by omega, Nat.le_refl _, ⟨_, HT.out.setD b.toNat 0, .inr ⟨by omega, ?_⟩⟩, ⟨HK.out.set (.inr (.inl rfl)) _⟩⟩
                        have h := HD1.out
                        rw [HB0.out, HBB.out] at h
                        exact h
                    · have hor := hor.resolve_left (fun h => hj0 h.1)
                      have hd := hor.2
                      rw [List.drop_eq_getElem_cons hlt2] at hd
                      unfold deepF at hd
                      generalize order[j] = b at hbr hc hd
                      obtain ⟨b0, b1⟩ := hbr
                      by_cases hx : 0 ≤ rd abx b ∧ rd abx b < (n4 : Int)
                      · rw [if_pos hx] at hd
                        have HD2 := Aside0.mk hd
                        clear hd hor
                        obtain ⟨x0, x1⟩ := hx
                        have cab := HT.out.cellA b0 b1
                        have cdb := HT.out.cellD b0 b1
                        have cdx := HT.out.cellD x0 x1
                        have fdb := blk_frozen HT.out.t.cd b.toNat
                        have z0 : ((j : Int) == 0) = false := by rw [beq_eq_false_iff_ne]; omega
                        generalize rd abx b = xx at x0 x1 cab cdx HD2
                        go_wp2_with fail
                        go_region
                        clear cab cdb cdx fdb t0 t1 hc
                        go_wp2_with fail
                        go_roundg (order.length - (j + 1))
                        case measure => omega
                        case rel =>
                          exact ⟨j + 1, congrArg (Value.int .i64) (by first | omega | (unfold wrap64; omega)), by omega, Nat.le_refl _, ⟨_, (HT.out.setD b.toNat (wrap64 (rd dpj xx + 1))).drewN 1, .inr ⟨by omega, HD2.out⟩⟩, ⟨(HK.out.set (p := ⟨gd, b.toNat, none⟩) (.inr (.inl rfl)) _).on (pw_below_drewN (Below.refl _ _) 1)⟩⟩
                      · rw [if_neg hx] at hd
                        cases hd
                  · have hor := hor.resolve_left (fun h => by omega)
                    have hd := hor.2
                    rw [List.drop_of_length_le (by omega)] at hd
                    unfold deepF at hd
                    have hd := Option.some.inj hd
                    subst hd
                    clear hor
                    go_wp2_with fail
                    go_ret
                    exact ⟨_, rfl, ⟨_, ga, gd, gt, gp, pl, rfl, HT.out⟩⟩
end Go.Proofs.Ytcknmcfomkbenaa.H
