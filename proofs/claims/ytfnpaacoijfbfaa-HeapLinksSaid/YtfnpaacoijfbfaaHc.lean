/- slices.ContainsFunc and the closure over references answer whether one is out of bounds: for any row. -/
import Derived.Test.YtfnpaacoijfbfaaHb
import Derived.Outline
namespace Go.Proofs.Ytfnpaacoijfbfaa.H
open Go.RowKit Go.Lib Go.Proofs.YtfnpaacoijfbfaaW.PrintWords Go.Proofs.YtfnpaacoijfbfaaW.PrintLast Go.Proofs.YtfnpaacoijfbfaaW.PrintMore

set_option maxHeartbeats 1000000 in
theorem indexFunc39 (g : Nat) (lb : Array Value) (eg : ∀ args w, (callFunc g args).run Try.prog w = .ok (.enter g args) w) (ad : Addr) (n c : Nat) (x : Nat → Int) (p : Nat → Bool) (w : World) (hbig : n ≤ 9223372036854775807)
    (hc : ∀ j, j < n → w.cell? (ad.add j) = some (.int .i64 (x j)))
    (hp : ∀ j, j < n → ∀ W, Below w.heap.size w W → Calls Try.prog g (#[.int .i64 (x j)] ++ lb) W fun e w' => e = .returned (.bool (p j)) ∧ Below w.heap.size w w') :
    Calls Try.prog 39 #[.slice (some ad) n c, .func (.func g) #[] lb] w fun e w' => e = .returned (.int .i64 (idxN p 0 n)) ∧ Below w.heap.size w w' := by
  have HP := Aside0.mk hp
  have HC := Aside0.mk hc
  clear hp hc
  go_enter Try.func39, Try.ntmps39
  go_wp2
  go_loopg [5, 8] n (fun gg _ s8 wr => ∃ kk : Nat, kk ≤ n ∧ n - kk ≤ gg ∧ s8 = .int .i64 kk ∧ Aside0 (Below w.heap.size w wr) ∧ Aside0 (∀ j, j < kk → p j = false))
  case atStart => exact ⟨0, Nat.zero_le _, by omega, rfl, ⟨Below.refl _ w⟩, ⟨fun j hj => absurd hj (Nat.not_lt_zero _)⟩⟩
  case round =>
    obtain ⟨kk, hkk, hg, rfl, BW, A⟩ := hrel
    by_cases hlt : kk < n
    · have hltz : (kk : Int) < (n : Int) := by omega
      have hcall := HP.out kk hlt wr BW.out
      have c0 := pw_cell_below BW.out (HC.out kk hlt)
      generalize x kk = y0 at c0 hcall
      cases hq : p kk with
      | true =>
        rw [hq] at hcall
        have HQ := Aside0.mk hq
        clear hq
        go_wp2_with fail
        refine hcall.mono ?_
        rintro e w' ⟨rfl, hb'⟩
        go_wp2_with fail
        go_ret
        refine ⟨?_, hb'⟩
        rw [idxN_hit p n 0 kk (by omega) (by omega) HQ.out (fun j _ hj => A.out j hj)]
        rfl
      | false =>
        rw [hq] at hcall
        have HQ := Aside0.mk hq
        clear hq
        go_wp2_with fail
        refine hcall.mono ?_
        rintro e w' ⟨rfl, hb'⟩
        go_wp2_with fail
        go_roundg (n - (kk + 1))
        case measure => omega
        case rel =>
          refine ⟨kk + 1, by omega, by omega, by go_num, ⟨hb'⟩, ⟨fun j hj => ?_⟩⟩
          by_cases e : j = kk
          · subst e
            exact HQ.out
          · exact A.out j (by omega)
    · have hltz : ¬ (kk : Int) < (n : Int) := by omega
      go_wp2
      go_ret
      refine ⟨?_, BW.out⟩
      rw [idxN_miss p n 0 (fun j _ hj => A.out j (by omega))]
      rfl

theorem containsFunc31 (g : Nat) (lb : Array Value) (eg : ∀ args w, (callFunc g args).run Try.prog w = .ok (.enter g args) w) (ad : Addr) (n c : Nat) (x : Nat → Int) (p : Nat → Bool) (w : World) (hbig : n ≤ 9223372036854775807)
    (hc : ∀ j, j < n → w.cell? (ad.add j) = some (.int .i64 (x j)))
    (hp : ∀ j, j < n → ∀ W, Below w.heap.size w W → Calls Try.prog g (#[.int .i64 (x j)] ++ lb) W fun e w' => e = .returned (.bool (p j)) ∧ Below w.heap.size w w') :
    Calls Try.prog 31 #[.slice (some ad) n c, .func (.func g) #[] lb] w fun e w' => e = .returned (.bool ((List.range' 0 n).any p)) ∧ Below w.heap.size w w' := by
  rw [← idxN_ge]
  have hcall := indexFunc39 g lb eg ad n c x p w hbig hc hp
  clear hp hc
  go_enter Try.func31, Try.ntmps31
  go_wp2_with fail
  refine hcall.mono ?_
  rintro e w' ⟨rfl, hb'⟩
  go_wp2_with fail
  go_ret
  exact ⟨rfl, hb'⟩
theorem indexFunc39_zero (fv : Value) (A : Option Addr) (c : Nat) (w : World) :
    Calls Try.prog 39 #[.slice A 0 c, fv] w fun e w' => e = .returned (.int .i64 (-1)) ∧ Below w.heap.size w w' := by
  go_enter Try.func39, Try.ntmps39
  go_wp2
  go_loopg [5, 8] 0 (fun gg _ s8 wr => s8 = .int .i64 0 ∧ Aside0 (Below w.heap.size w wr))
  case atStart => exact ⟨rfl, ⟨Below.refl _ w⟩⟩
  case round =>
    obtain ⟨rfl, BW⟩ := hrel
    go_wp2
    go_ret
    exact ⟨rfl, BW.out⟩
theorem indexFunc38_zero (fv : Value) (A : Option Addr) (c : Nat) (w : World) :
    Calls Try.prog 38 #[.slice A 0 c, fv] w fun e w' => e = .returned (.int .i64 (-1)) ∧ Below w.heap.size w w' := by
  go_enter Try.func38, Try.ntmps38
  go_wp2
  go_loopg [5, 8] 0 (fun gg _ s8 wr => s8 = .int .i64 0 ∧ Aside0 (Below w.heap.size w wr))
  case atStart => exact ⟨rfl, ⟨Below.refl _ w⟩⟩
  case round =>
    obtain ⟨rfl, BW⟩ := hrel
    go_wp2
    go_ret
    exact ⟨rfl, BW.out⟩
theorem containsFunc31_zero (fv : Value) (A : Option Addr) (c : Nat) (w : World) :
    Calls Try.prog 31 #[.slice A 0 c, fv] w fun e w' => e = .returned (.bool false) ∧ Below w.heap.size w w' := by
  have hcall := indexFunc39_zero fv A c w
  go_enter Try.func31, Try.ntmps31
  go_wp2_with fail
  refine hcall.mono ?_
  rintro e w' ⟨rfl, hb'⟩
  go_wp2_with fail
  go_ret
  exact ⟨rfl, hb'⟩
theorem containsFunc29_zero (fv : Value) (A : Option Addr) (c : Nat) (w : World) :
    Calls Try.prog 29 #[.slice A 0 c, fv] w fun e w' => e = .returned (.bool false) ∧ Below w.heap.size w w' := by
  have hcall := indexFunc38_zero fv A c w
  go_enter Try.func29, Try.ntmps29
  go_wp2_with fail
  refine hcall.mono ?_
  rintro e w' ⟨rfl, hb'⟩
  go_wp2_with fail
  go_ret
  exact ⟨rfl, hb'⟩
theorem containsFunc29 (g : Nat) (lb : Array Value) (eg : ∀ args w, (callFunc g args).run Try.prog w = .ok (.enter g args) w) (ad : Addr) (n c : Nat) (v0 v1 : Nat → Value) (p : Nat → Bool) (w : World) (hbig : n ≤ 9223372036854775807)
    (hc : ∀ j, j < n → w.cell? (ad.add (j * 2)) = some (v0 j) ∧ w.cell? ⟨(ad.add (j * 2)).block, (ad.add (j * 2)).off + 1, none⟩ = some (v1 j))
    (h1 : ∀ j, j < n → (v0 j).oneCell' = true ∧ (v1 j).oneCell' = true)
    (hp : ∀ j, j < n → ∀ W, Below w.heap.size w W → Calls Try.prog g (#[.agg #[v0 j, v1 j]] ++ lb) W fun e w' => e = .returned (.bool (p j)) ∧ Below w.heap.size w w') :
    Calls Try.prog 29 #[.slice (some ad) n c, .func (.func g) #[] lb] w fun e w' => e = .returned (.bool ((List.range' 0 n).any p)) ∧ Below w.heap.size w w' := by
  rw [← idxN_ge]
  have hcall := indexFunc38 g lb eg ad n c v0 v1 p w hbig hc h1 hp
  clear hp hc h1
  go_enter Try.func29, Try.ntmps29
  go_wp2_with fail
  refine hcall.mono ?_
  rintro e w' ⟨rfl, hb'⟩
  go_wp2_with fail
  go_ret
  exact ⟨rfl, hb'⟩

set_option maxHeartbeats 1000000 in
theorem closure28 (x : Int) (B : Nat) (A : Option Addr) (n c : Nat) (W : World) (hc : W.cell? ⟨B, 0, none⟩ = some (.slice A n c)) :
    Calls Try.prog 28 #[.int .i64 x, .pointer (some ⟨B, 0, none⟩)] W fun e w' => e = .returned (.bool (decide (x < 0) || decide ((n : Int) < x))) ∧ Below W.heap.size W w' := by
  cases hx : decide (x < 0) with
  | true =>
    go_enter Try.func28, Try.ntmps28
    go_wp2
    go_ret
    exact ⟨by simp, by repeat (first | exact Below.refl _ _ | apply below_drew)⟩
  | false =>
    cases hy : decide ((n : Int) < x) with
    | true =>
      go_enter Try.func28, Try.ntmps28
      go_wp2
      go_ret
      exact ⟨by simp, by repeat (first | exact Below.refl _ _ | apply below_drew)⟩
    | false =>
      go_enter Try.func28, Try.ntmps28
      go_wp2
      go_ret
      exact ⟨by simp, by repeat (first | exact Below.refl _ _ | apply below_drew)⟩

/-- What 'bad' says of a reference, in a heap of n objects. -/
def badB (n : Nat) (x : Int) : Bool := decide (x < 0) || decide ((n : Int) < x)
theorem contains31_any (B : Nat) (hA : Option Addr) (hn hc : Nat) (A : Option Addr) (c : Nat) (l : List Int) (w : World) (hr : Kd.C (Kd.int .i64) w A l.length l) (hB : w.cell? ⟨B, 0, none⟩ = some (.slice hA hn hc)) :
    Calls Try.prog 31 #[.slice A l.length c, .func (.func 28) #[] #[.pointer (some ⟨B, 0, none⟩)]] w fun e w' => e = .returned (.bool (l.any (badB hn))) ∧ Below w.heap.size w w' := by
  have eg : ∀ args w, (callFunc 28 args).run Try.prog w = .ok (.enter 28 args) w := enters_fn Try.func28 (by kernel_rfl) rfl
  cases A with
  | none =>
    obtain rfl := row_nil hr
    exact containsFunc31_zero _ _ _ _
  | some ad =>
    have hall : (List.range' 0 l.length).any (fun j => badB hn (l.getD j 0)) = l.any (badB hn) := by
      rw [Bool.eq_iff_iff, List.any_eq_true, List.any_eq_true]
      constructor
      · rintro ⟨j, hj, hb⟩
        rw [List.mem_range'_1] at hj
        have hlt : j < l.length := by omega
        refine ⟨l[j], List.getElem_mem hlt, ?_⟩
        rwa [List.getD_eq_getElem?_getD, List.getElem?_eq_getElem hlt] at hb
      · rintro ⟨x, hx, hb⟩
        obtain ⟨j, hlt, rfl⟩ := List.getElem_of_mem hx
        refine ⟨j, by rw [List.mem_range'_1]; omega, ?_⟩
        rwa [List.getD_eq_getElem?_getD, List.getElem?_eq_getElem hlt]
    rw [← hall]
    refine containsFunc31 28 _ eg ad l.length c (fun j => l.getD j 0) (fun j => badB hn (l.getD j 0)) w hr.2.1 ?_ ?_
    · intro j hj
      obtain ⟨ad', he, hcell⟩ := Kd.at_int hr (j : Int) (by omega) (by omega)
      injection he with he
      subst he
      simpa [rd] using hcell
    · intro j hj W hb
      have hlt := World.block_lt_of_cell? w _ hB
      exact (closure28 _ B hA hn hc W (pw_cell_below hb hB)).mono fun e w' ⟨he, hb'⟩ => ⟨he, hb.trans (hb'.mono hb.size)⟩
end Go.Proofs.Ytfnpaacoijfbfaa.H
