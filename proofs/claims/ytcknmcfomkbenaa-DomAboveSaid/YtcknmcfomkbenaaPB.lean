/- Sets of numbers below 64: one word. -/
import Derived.Test.YtcknmcfomkbenaaPFx20
import Derived.Test.YtcknmcfomkbenaaPG
import Derived.Laws.BitsLemmas
namespace Go.Proofs.Ytcknmcfomkbenaa.Pure
open Go.RowKit Go.Proofs.YtcknmcfomkbenaaW.PrintWords Go.Proofs.YtcknmcfomkbenaaW.PrintLast Go.Proofs.YtcknmcfomkbenaaW.PrintMore Go.Proofs.Ytcknmcfomkbenaa.PF Go.Proofs.Ytcknmcfomkbenaa.E Go.Proofs.Ytcknmcfomkbenaa.D
set_option linter.unusedVariables false
theorem wrap_u64 (n : Int) : IntKind.u64.wrap n = n % 18446744073709551616 := by simp [IntKind.wrap, IntKind.bits, IntKind.signed]
theorem wraps_u64 (n : Int) (h₀ : 0 ≤ n) (h₁ : n < 2 ^ 64) : IntKind.u64.wrap n = n := by rw [wrap_u64]; omega
theorem tdiv_w {b : Int} (h0 : 0 ≤ b) (h1 : b < 64) : wrap64 (Int.tdiv b 64) = 0 := by
  rw [Int.tdiv_eq_ediv_of_nonneg h0]
  exact (wid (by omega) (by omega)).trans (by omega)
theorem tmod_w {b : Int} (h0 : 0 ≤ b) (h1 : b < 64) : Int.tmod b 64 = b := by
  rw [Int.tmod_eq_emod_of_nonneg h0]
  omega
theorem has_word (x : Nat) (hx : x < 2 ^ 64) {i : Int} (h0 : 0 ≤ i) (h1 : i < 64) : bitset_Has.f [(x : Int)] i = some (x.testBit i.toNat) := by
  unfold bitset_Has.f
  rw [tdiv_w h0 h1, tmod_w h0 h1, if_pos h0, if_pos (by simp), if_pos (by omega), if_pos h0]
  have e1 : rd [(x : Int)] 0 = (x : Int) := rfl
  have e2 : shr .u64 (x : Int) i = ((x / 2 ^ i.toNat : Nat) : Int) := by
    unfold shr
    rw [show min i.toNat IntKind.u64.bits = i.toNat from by show min i.toNat 64 = i.toNat; omega]
    simp
  have h2 : x / 2 ^ i.toNat < 2 ^ 64 := Nat.lt_of_le_of_lt (Nat.div_le_self _ _) hx
  rw [e1, e2]
  have e3 := (bits_nat .u64 64 (by decide) wraps_u64 (x / 2 ^ i.toNat) 1 h2 (by decide)).1
  rw [show ((1 : Nat) : Int) = 1 from rfl] at e3
  rw [e3, Nat.and_one_is_mod, Nat.testBit_eq_decide_div_mod_eq]
  congr 1
  have h3 : x / 2 ^ i.toNat % 2 = 0 ∨ x / 2 ^ i.toNat % 2 = 1 := by omega
  rcases h3 with h3 | h3 <;> (rw [h3]; rfl)
theorem shl_one {b : Int} (h0 : 0 ≤ b) (h1 : b < 64) : shl .u64 1 b = ((2 ^ b.toNat : Nat) : Int) := by
  unfold shl
  rw [show min b.toNat IntKind.u64.bits = b.toNat from by show min b.toNat 64 = b.toNat; omega, Int.one_mul]
  have h2 : (2 : Nat) ^ b.toNat < 2 ^ 64 := Nat.pow_lt_pow_right (by decide) (by omega)
  have e : ((2 : Int) ^ b.toNat) = ((2 ^ b.toNat : Nat) : Int) := by simp
  rw [e]
  exact wraps_u64 _ (Int.natCast_nonneg _) (by exact_mod_cast h2)
theorem or_word (x : Nat) (hx : x < 2 ^ 64) {b : Int} (h0 : 0 ≤ b) (h1 : b < 64) : Go.bits .or .u64 (x : Int) (shl .u64 1 b) = ((x ||| 2 ^ b.toNat : Nat) : Int) ∧ x ||| 2 ^ b.toNat < 2 ^ 64 ∧ 0 < x ||| 2 ^ b.toNat := by
  have h2 : (2 : Nat) ^ b.toNat < 2 ^ 64 := Nat.pow_lt_pow_right (by decide) (by omega)
  rw [shl_one h0 h1]
  refine ⟨(bits_nat .u64 64 (by decide) wraps_u64 x (2 ^ b.toNat) hx h2).2, Nat.or_lt_two_pow hx h2, ?_⟩
  have := Nat.right_le_or (n := x) (m := 2 ^ b.toNat)
  have := Nat.two_pow_pos b.toNat
  omega
theorem neat_word (k x : Nat) (hx : 0 < x) : bitset_neat.f (k + 1) [(x : Int)] = some [(x : Int)] := by
  unfold bitset_neat.f
  simp only [bitset_neat.l0]
  have e : wrap64 ((([(x : Int)] : List Int).length : Int) - 1) = 0 := by simp [wrap64]
  rw [e, if_pos (by simp), if_pos (by omega), if_pos (by simp), if_neg (by rw [show rd [(x : Int)] 0 = (x : Int) from rfl]; omega)]
theorem with_step (k : Nat) (s : List Int) (x : Nat) (hs : s = [] ∧ x = 0 ∨ s = [(x : Int)]) (hx : x < 2 ^ 64) {b : Int} (h0 : 0 ≤ b) (h1 : b < 64) : bitset_With.f (k + 4) s [b] = some [((x ||| 2 ^ b.toNat : Nat) : Int)] := by
  obtain ⟨o1, o2, o3⟩ := or_word x hx h0 h1
  have hl : s.length ≤ 17592186044416 := by rcases hs with ⟨rfl, _⟩ | rfl <;> simp
  unfold bitset_With.f slices_Clone_uint64_uint64.f
  rw [if_pos hl, Option.bind_some]
  have fin : bitset_With.l0 (k + 2) [((x ||| 2 ^ b.toNat : Nat) : Int)] [b] (([b] : List Int).length : Int) (wrap64 (0 + 1)) = some [((x ||| 2 ^ b.toNat : Nat) : Int)] := by
    simp only [bitset_With.l0]
    rw [if_neg (by simp [wrap64]), neat_word k _ o3]
    rfl
  simp only [bitset_With.l0]
  have eb : rd [b] 0 = b := rfl
  rw [if_pos (by simp), if_pos (by omega), if_pos (by simp), eb, if_neg (by omega), decide_eq_false (show ¬ b ≥ 4096 by omega)]
  simp only [bitset_With.j1]
  rw [if_neg (by simp), tdiv_w h0 h1, tmod_w h0 h1]
  rcases hs with ⟨rfl, rfl⟩ | rfl
  · have em : wrap64 (wrap64 (0 + 1) - (([] : List Int).length : Int)) = 1 := by simp [wrap64]
    rw [em, if_pos (by omega), if_pos (by omega), if_pos (by simp), Option.bind_some, if_pos (by omega), if_pos (by simp), if_pos h0]
    have e : ([] ++ List.replicate (1 : Int).toNat (0 : Int)).set (0 : Int).toNat (Go.bits .or .u64 (rd ([] ++ List.replicate (1 : Int).toNat (0 : Int)) 0) (shl .u64 1 b)) = [((0 ||| 2 ^ b.toNat : Nat) : Int)] := by
      rw [← o1]
      rfl
    rw [e]
    exact fin
  · have em : wrap64 (wrap64 (0 + 1) - (([(x : Int)] : List Int).length : Int)) = 0 := by simp [wrap64]
    rw [em, if_neg (by omega), if_pos (by omega), if_pos (by simp), if_pos h0]
    have e : [(x : Int)].set (0 : Int).toNat (Go.bits .or .u64 (rd [(x : Int)] 0) (shl .u64 1 b)) = [((x ||| 2 ^ b.toNat : Nat) : Int)] := by
      rw [← o1]
      rfl
    rw [e]
    exact fin
def Rep (s : List Int) (X : Int → Prop) : Prop := ∃ x : Nat, s = [(x : Int)] ∧ x < 2 ^ 64 ∧ ∀ i : Int, 0 ≤ i → i < 64 → (x.testBit i.toNat = true ↔ X i)
theorem testBit_or_pow (x : Nat) {b i : Int} (b0 : 0 ≤ b) (i0 : 0 ≤ i) : (x ||| 2 ^ b.toNat).testBit i.toNat = true ↔ x.testBit i.toNat = true ∨ i = b := by
  rw [Nat.testBit_or, Bool.or_eq_true, Nat.testBit_two_pow]
  refine or_congr Iff.rfl ?_
  rw [decide_eq_true_iff]
  omega
theorem of_rep {b : Int} (h0 : 0 ≤ b) (h1 : b < 64) : ∃ s, bitset_Of.f 70 [b] = some s ∧ Rep s (fun i => i = b) := by
  have e := with_step 66 [] 0 (.inl ⟨rfl, rfl⟩) (by decide) h0 h1
  refine ⟨_, ?_, 0 ||| 2 ^ b.toNat, rfl, (or_word 0 (by decide) h0 h1).2.1, fun i i0 i1 => ?_⟩
  · unfold bitset_Of.f
    rw [show (70 : Nat) = 66 + 4 from rfl, e]
    rfl
  · rw [testBit_or_pow 0 h0 i0]
    simp
theorem with_rep {s : List Int} {X : Int → Prop} (hs : Rep s X) {b : Int} (h0 : 0 ≤ b) (h1 : b < 64) : ∃ t, bitset_With.f 70 s [b] = some t ∧ Rep t (fun i => X i ∨ i = b) := by
  obtain ⟨x, rfl, hx, hr⟩ := hs
  have e := with_step 66 [(x : Int)] x (.inr rfl) hx h0 h1
  refine ⟨_, e, x ||| 2 ^ b.toNat, rfl, (or_word x hx h0 h1).2.1, fun i i0 i1 => ?_⟩
  rw [testBit_or_pow x h0 i0, hr i i0 i1]
theorem has_rep {s : List Int} {X : Int → Prop} (hs : Rep s X) {b : Int} (h0 : 0 ≤ b) (h1 : b < 64) : ∃ r, bitset_Has.f s b = some r ∧ (r = true ↔ X b) := by
  obtain ⟨x, rfl, hx, hr⟩ := hs
  exact ⟨_, has_word x hx h0 h1, hr b h0 h1⟩
theorem Rep.congr {s : List Int} {X Y : Int → Prop} (h : Rep s X) (e : ∀ i, 0 ≤ i → i < 64 → (X i ↔ Y i)) : Rep s Y := by
  obtain ⟨x, h1, h2, h3⟩ := h
  exact ⟨x, h1, h2, fun i i0 i1 => (h3 i i0 i1).trans (e i i0 i1)⟩
section
variable {nx : Int → List Int} {n : Nat} {order ab dp : List Int} (t : Tr nx n order ab dp)
include t
theorem Tr.zero_up : ∀ (k : Nat) (b : Int), b ∈ order → rd dp b < (k : Int) → Up ab b 0
  | 0, b, hb, hk => by have := (t.dn b hb).1; omega
  | k + 1, b, hb, hk => by
    by_cases h0 : b = 0
    · subst h0; exact .refl _
    · have hi := t.ai b hb h0
      have hd := t.ds b hb h0
      exact .up (t.pos hb h0) (Tr.zero_up k _ hi (by omega))
end
section
variable {nx : Int → List Int} {n : Nat} {order ab dp : List Int} (t : Tr nx n order ab dp) (hn : n ≤ 64)
include t hn
theorem Tr.ups : ∀ (k : Nat) (b : Int) (s : List Int) (X : Int → Prop), b ∈ order → rd dp b < (k : Int) → Rep s X → X b → ∃ s', upF n ab (fun s b => bitset_With.f 70 s [b]) k b s = some s' ∧ Rep s' (fun i => X i ∨ Up ab b i)
  | 0, b, s, X, hb, hk, _, _ => by have := (t.dn b hb).1; omega
  | k + 1, b, s, X, hb, hk, hs, hX => by
    have hbr := t.rng b hb
    unfold upF
    rw [if_pos hbr]
    by_cases h : 0 ≤ rd ab b
    · have h0 := t.ne h
      have hi := t.ai b hb h0
      have hr := t.rng _ hi
      have hd := t.ds b hb h0
      obtain ⟨s1, e1, hs1⟩ := with_rep hs hr.1 (by omega)
      obtain ⟨s2, e2, hs2⟩ := Tr.ups k (rd ab b) s1 _ hi (by omega) hs1 (.inr rfl)
      rw [if_pos h]
      refine ⟨s2, by rw [e1]; exact e2, hs2.congr (fun i i0 i1 => ?_)⟩
      constructor
      · rintro ((h1 | rfl) | h1)
        · exact .inl h1
        · exact .inr (.up h (.refl _))
        · exact .inr (.up h h1)
      · rintro (h1 | h1)
        · exact .inl (.inl h1)
        · cases h1 with
          | refl => exact .inl (.inl hX)
          | up _ h2 => exact .inr h2
    · rw [if_neg h]
      refine ⟨s, rfl, hs.congr (fun i i0 i1 => ⟨.inl, ?_⟩)⟩
      rintro (h1 | h1)
      · exact h1
      · cases h1 with
        | refl => exact hX
        | up h2 _ => exact absurd h2 h
theorem Tr.find {a : Int} {s : List Int} (ha : a ∈ order) (hs : Rep s (fun i => Up ab a i)) : ∀ (k : Nat) (b : Int), b ∈ order → rd dp b < (k : Int) →
    ∃ m, findF n ab (fun s b => bitset_Has.f s b) s k b = some m ∧ m ∈ order ∧ Up ab a m ∧ Up ab b m ∧ ∀ x, Up ab a x → Up ab b x → Up ab m x
  | 0, b, hb, hk => by have := (t.dn b hb).1; omega
  | k + 1, b, hb, hk => by
    have hbr := t.rng b hb
    obtain ⟨r, e, hr⟩ := has_rep hs hbr.1 (by omega)
    unfold findF
    rw [e, Option.bind_some]
    by_cases h : r = true
    · rw [if_pos h]
      exact ⟨b, rfl, hb, hr.1 h, .refl _, fun x _ h2 => h2⟩
    · rw [if_neg h, if_pos hbr]
      have hu : ¬ Up ab a b := fun h2 => h (hr.2 h2)
      have h0 : b ≠ 0 := by
        rintro rfl
        exact hu (t.zero_up (n + 1) a ha (by have := (t.dn a ha).2; omega))
      have hi := t.ai b hb h0
      have hd := t.ds b hb h0
      obtain ⟨m, e1, e2, e3, e4, e5⟩ := Tr.find ha hs k (rd ab b) hi (by omega)
      refine ⟨m, e1, e2, e3, .up (t.pos hb h0) e4, fun x h1 h2 => e5 x h1 ?_⟩
      cases h2 with
      | refl => exact absurd h1 hu
      | up _ h3 => exact h3
theorem Tr.meet (a b : Int) : ∃ m, meet2F n ab dp (fun b => bitset_Of.f 70 [b]) (fun s b => bitset_With.f 70 s [b]) (fun s b => bitset_Has.f s b) 70 a b = some m ∧
    (a ∈ order ∧ b ∈ order → m ∈ order ∧ Up ab a m ∧ Up ab b m ∧ ∀ x, Up ab a x → Up ab b x → Up ab m x) ∧ (¬ (a ∈ order ∧ b ∈ order) → m = -1) := by
  unfold meet2F
  by_cases h : a ∈ order ∧ b ∈ order
  · rw [if_pos ⟨(t.there_iff a).2 h.1, (t.there_iff b).2 h.2⟩]
    have har := t.rng a h.1
    have h1 := t.dn a h.1
    have h2 := t.dn b h.2
    obtain ⟨s0, e0, hs0⟩ := of_rep har.1 (show a < 64 by omega)
    obtain ⟨s, e1, hs⟩ := t.ups hn 70 a s0 _ h.1 (by omega) hs0 rfl
    have hs' : Rep s (fun i => Up ab a i) := hs.congr (fun i _ _ => ⟨fun h => h.elim (fun e => e ▸ .refl _) id, .inr⟩)
    obtain ⟨m, e2, hm⟩ := t.find hn h.1 hs' 70 b h.2 (by omega)
    refine ⟨m, by simp only [e0, Option.bind_some, e1]; exact e2, fun _ => hm, fun h3 => absurd h h3⟩
  · rw [if_neg (fun h2 => h ⟨(t.there_iff a).1 h2.1, (t.there_iff b).1 h2.2⟩)]
    exact ⟨-1, rfl, fun h2 => absurd h2 h, fun _ => rfl⟩
end
end Go.Proofs.Ytcknmcfomkbenaa.Pure
