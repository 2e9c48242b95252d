/- slices.IndexFunc over ints gives the first place at which the closure answers true: for any row. -/
import Derived.Test.YtfnpaacoijfbfaaHa
import Derived.Deep.LoopGhost
namespace Go.Proofs.Ytfnpaacoijfbfaa.H
open Go.RowKit Go.Lib Go.Proofs.YtfnpaacoijfbfaaW.PrintWords Go.Proofs.YtfnpaacoijfbfaaW.PrintLast Go.Proofs.YtfnpaacoijfbfaaW.PrintMore

/-- The first place below n at which p holds, or -1. -/
def idxN (p : Nat → Bool) : Nat → Nat → Int
  | _, 0 => -1
  | i, n + 1 => if p i then i else idxN p (i + 1) n
theorem idxN_hit (p : Nat → Bool) (n : Nat) : ∀ (i k : Nat), i ≤ k → k < i + n → p k = true → (∀ j, i ≤ j → j < k → p j = false) → idxN p i n = k := by
  induction n with
  | zero => intro i k h1 h2; omega
  | succ n ih =>
    intro i k h1 h2 hk hj
    unfold idxN
    by_cases e : i = k
    · subst e; rw [if_pos hk]
    · rw [if_neg (by rw [hj i (Nat.le_refl _) (by omega)]; decide)]
      exact ih (i + 1) k (by omega) (by omega) hk (fun j a b => hj j (by omega) b)
theorem idxN_miss (p : Nat → Bool) (n : Nat) : ∀ (i : Nat), (∀ j, i ≤ j → j < i + n → p j = false) → idxN p i n = -1 := by
  induction n with
  | zero => intro i _; rfl
  | succ n ih =>
    intro i hj
    unfold idxN
    rw [if_neg (by rw [hj i (Nat.le_refl _) (by omega)]; decide)]
    exact ih (i + 1) (fun j a b => hj j (by omega) (by omega))
theorem idxN_ge (p : Nat → Bool) (n : Nat) : ∀ (i : Nat), decide (idxN p i n ≥ 0) = (List.range' i n).any p := by
  induction n with
  | zero => intro i; rfl
  | succ n ih =>
    intro i
    unfold idxN
    rw [List.range'_succ, List.any_cons, ← ih (i + 1)]
    cases h : p i with
    | true => simp
    | false => simp

set_option maxHeartbeats 400000 in
theorem indexFunc38 (g : Nat) (lb : Array Value) (eg : ∀ args w, (callFunc g args).run Try.prog w = .ok (.enter g args) w) (ad : Addr) (n c : Nat) (v0 v1 : Nat → Value) (p : Nat → Bool) (w : World) (hbig : n ≤ 9223372036854775807)
    (hc : ∀ j, j < n → w.cell? (ad.add (j * 2)) = some (v0 j) ∧ w.cell? ⟨(ad.add (j * 2)).block, (ad.add (j * 2)).off + 1, none⟩ = some (v1 j))
    (h1 : ∀ j, j < n → (v0 j).oneCell' = true ∧ (v1 j).oneCell' = true)
    (hp : ∀ j, j < n → ∀ W, Below w.heap.size w W → Calls Try.prog g (#[.agg #[v0 j, v1 j]] ++ lb) W fun e w' => e = .returned (.bool (p j)) ∧ Below w.heap.size w w') :
    Calls Try.prog 38 #[.slice (some ad) n c, .func (.func g) #[] lb] w fun e w' => e = .returned (.int .i64 (idxN p 0 n)) ∧ Below w.heap.size w w' := by
  have HP := Aside0.mk hp
  have HC := Aside0.mk hc
  have H1 := Aside0.mk h1
  clear hp hc h1
  have aE := Try.isAgg47
  have zE := Try.sizeOf47
  go_enter Try.func38, Try.ntmps38
  go_wp2
  go_loopg [5, 8] n (fun gg _ s8 wr => ∃ kk : Nat, kk ≤ n ∧ n - kk ≤ gg ∧ s8 = .int .i64 kk ∧ Aside0 (Below w.heap.size w wr) ∧ Aside0 (∀ j, j < kk → p j = false))
  case atStart => exact ⟨0, Nat.zero_le _, by omega, rfl, ⟨Below.refl _ w⟩, ⟨fun j hj => absurd hj (Nat.not_lt_zero _)⟩⟩
  case round =>
    obtain ⟨kk, hkk, hg, rfl, BW, A⟩ := hrel
    by_cases hlt : kk < n
    · have hltz : (kk : Int) < (n : Int) := by omega
      have hcall := HP.out kk hlt wr BW.out
      have c0 := pw_cell_below BW.out (HC.out kk hlt).1
      have c1 := pw_cell_below BW.out (HC.out kk hlt).2
      obtain ⟨o0, o1⟩ := H1.out kk hlt
      generalize v0 kk = y0 at c0 hcall o0
      generalize v1 kk = y1 at c1 hcall o1
      cases hq : p kk with
      | true =>
        rw [hq] at hcall
        have HQ := Aside0.mk hq
        clear hq
        go_wp2_with fail
        refine hcall.mono ?_
        rintro e w' ⟨rfl, hb'⟩
        go_wp2_with fail
        go_ret
        refine ⟨?_, hb'⟩
        rw [idxN_hit p n 0 kk (by omega) (by omega) HQ.out (fun j _ hj => A.out j hj)]
        rfl
      | false =>
        rw [hq] at hcall
        have HQ := Aside0.mk hq
        clear hq
        go_wp2_with fail
        refine hcall.mono ?_
        rintro e w' ⟨rfl, hb'⟩
        go_wp2_with fail
        go_roundg (n - (kk + 1))
        case measure => omega
        case rel =>
          refine ⟨kk + 1, by omega, by omega, by go_num, ⟨hb'⟩, ⟨fun j hj => ?_⟩⟩
          by_cases e : j = kk
          · subst e
            exact HQ.out
          · exact A.out j (by omega)
    · have hltz : ¬ (kk : Int) < (n : Int) := by omega
      go_wp2
      go_ret
      refine ⟨?_, BW.out⟩
      rw [idxN_miss p n 0 (fun j _ hj => A.out j (by omega))]
      rfl
end Go.Proofs.Ytfnpaacoijfbfaa.H
