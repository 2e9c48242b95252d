/- Plain lemmas on counters, reads and rounds: no program. -/
import Derived.Test.YtcknmcfomkbenaaWZ
namespace Go.Proofs.Ytcknmcfomkbenaa.E
open Go.RowKit Go.Proofs.YtcknmcfomkbenaaW.PrintWords Go.Proofs.YtcknmcfomkbenaaW.PrintLast Go.Proofs.YtcknmcfomkbenaaW.PrintMore
theorem w1 {i : Nat} (h : i < 4611686018427387904) : wrap64 ((i : Int) + 1) = ((i + 1 : Nat) : Int) := by unfold wrap64; omega
theorem wid {x : Int} (h : -9223372036854775808 ≤ x) (h2 : x < 9223372036854775808) : wrap64 x = x := by unfold wrap64; omega
theorem rd_at {xs : List Int} {i : Nat} (h : i < xs.length) : rd xs (i : Int) = xs[i] := by
  unfold rd
  rw [Int.toNat_natCast, List.getD_eq_getElem?_getD, List.getElem?_eq_getElem h]
  rfl
theorem Ev.pos {α : Type} {c : Prop} [Decidable c] {f g : Nat → Option α} {r : α} (hc : c) (h : Ev f r) : Ev (fun k => if c then f k else g k) r := Ev.congr (fun _ => if_pos hc) h
theorem Ev.neg {α : Type} {c : Prop} [Decidable c] {f g : Nat → Option α} {r : α} (hc : ¬ c) (h : Ev g r) : Ev (fun k => if c then f k else g k) r := Ev.congr (fun _ => if_neg hc) h
theorem Ev.some_bind {α β : Type} {a : α} {f : Nat → α → Option β} {r : β} (h : Ev (fun n => f n a) r) : Ev (fun n => (some a).bind (f n)) r := h
theorem i64 {x : Int} (h : (Lit.int .i64 x).wf = true) : -9223372036854775808 ≤ x ∧ x < 9223372036854775808 := by
  have h1 : -9223372036854775808 ≤ x ∧ x ≤ 9223372036854775807 := by
    simpa [Lit.wf, IntKind.min, IntKind.max, IntKind.bits, IntKind.signed] using h
  omega
theorem u8 {x : Int} (h : (Lit.int .u8 x).wf = true) : 0 ≤ x ∧ x < 256 := by
  have h1 : 0 ≤ x ∧ x ≤ 255 := by
    simpa [Lit.wf, IntKind.min, IntKind.max, IntKind.bits, IntKind.signed] using h
  omega
def Gives {α : Type} (g : Nat → Option α) (P : α → Prop) : Prop := ∃ r, Ev g r ∧ P r
section
variable {α β : Type} {g h f : Nat → Option α} {P Q : α → Prop}
theorem Gives.of {r : α} (e : Ev g r) (p : P r) : Gives g P := ⟨r, e, p⟩
theorem Gives.now {r : α} (p : P r) : Gives (fun _ => some r) P := ⟨r, Ev.now r, p⟩
theorem Gives.mono (e : Gives g P) (i : ∀ r, P r → Q r) : Gives g Q := by
  obtain ⟨r, h, p⟩ := e
  exact ⟨r, h, i r p⟩
theorem Gives.bind {f : Nat → α → Option β} {R : β → Prop} (e : Gives g Q) (k : ∀ a, Q a → Gives (fun n => f n a) R) : Gives (fun n => (g n).bind (f n)) R := by
  obtain ⟨a, ha, q⟩ := e
  obtain ⟨b, hb, p⟩ := k a q
  exact ⟨b, Ev.bind ha hb, p⟩
theorem Gives.pos {c : Prop} [Decidable c] (hc : c) (e : Gives g P) : Gives (fun k => if c then g k else h k) P := by
  obtain ⟨r, e, p⟩ := e
  exact ⟨r, Ev.pos hc e, p⟩
theorem Gives.neg {c : Prop} [Decidable c] (hc : ¬ c) (e : Gives h P) : Gives (fun k => if c then g k else h k) P := by
  obtain ⟨r, e, p⟩ := e
  exact ⟨r, Ev.neg hc e, p⟩
theorem Gives.ite {c : Prop} [Decidable c] (e : c → Gives g P) (e2 : ¬ c → Gives h P) : Gives (fun k => if c then g k else h k) P := by
  by_cases hc : c
  · exact Gives.pos hc (e hc)
  · exact Gives.neg hc (e2 hc)
theorem Gives.step (e : ∀ k, g (k + 1) = f k) (k : Gives f P) : Gives g P := by
  obtain ⟨r, h, p⟩ := k
  exact ⟨r, Ev.step e h, p⟩
theorem Gives.some_bind {a : α} {f : Nat → α → Option β} {R : β → Prop} (e : Gives (fun n => f n a) R) : Gives (fun n => (some a).bind (f n)) R := e
theorem Gives.rounds (e : Gives g P) : ∃ r k, g k = some r ∧ P r := by
  obtain ⟨r, h, p⟩ := e
  obtain ⟨k, hk⟩ := h.rounds
  exact ⟨r, k, hk, p⟩
end
end Go.Proofs.Ytcknmcfomkbenaa.E
