/- portolanlaw06_DomMeets: the law answers true for every input; out of its plain statement (PureDomMeets) and the walk. -/
import Derived.Test.YtcknmcfomkbenaaRows
import Derived.Test.YtcknmcfomkbenaaPFx24
import Derived.Test.YtcknmcfomkbenaaWZ
import Derived.Test.YtcknmcfomkbenaaWO
import Derived.Test.YtcknmcfomkbenaaPureDomMeets
import Derived.WalkKit
import Derived.ProofKit
import Derived.OpenShut
import Derived.ShutString
import Derived.ChangeOld
import Derived.Below
import Derived.SizedLaws
namespace Go.Proofs.Ytcknmcfomkbenaa.domMeets
open Go.ChangeShapes Go.WideShapes Go.ChangeAt Go.RowKit Go.Proofs.YtcknmcfomkbenaaW.PrintWords
theorem own : ownKnob Try.prog.godebug = none := by kernel_rfl
theorem laidOut : laidOutB Try.prog = true := by kernel_rfl
set_option maxRecDepth 100000 in
set_option maxHeartbeats 1000000 in
theorem lifted (os : Os) (started : os.Started) (H : Type) (enc : TypeId × Value → H) :
    ReturnsInHanded {} Try.checked os 14 .any (Rows.domMeetsSpec.pre6 enc Try.prog Try.f14 Rows.domMeetsRow.domain false) (Rows.domMeetsSpec.post enc Try.prog Try.f14 false true false false) := by
  refine returnsInHanded_of_change_sized (C := Try.checked) own started (by kernel_rfl) Try.func14
    (ChangeSpec.witness6 (enc := enc) (C := Try.checked) false ⟨#[], #[.agg #[.slice none 0 0], .agg #[.int .u8 0, .int .u8 0]], []⟩ 8 (by kernel_rfl) (by kernel_rfl) (by kernel_rfl) (by kernel_rfl)) ?_
  intro W base args ds gs before hval0 hW hcnd hsz0 _
  have hsz : (DataW.weightsEach Try.prog (Try.f14.params.toList ++ Rows.domMeetsSpec.plain.varTypes Try.prog) (ds ++ gs)).all (· ≤ reachBytes) = true := hsz0
  have hval : ∀ (j : Nat) t v, Try.f14.params[j]? = some t → args[j]? = some v → Value.okWide Try.prog W .any base t v := hval0
  have hW' := hW
  obtain ⟨p, q, hA0, hV, rfl, hfz, hnd⟩ := hW
  have hA : DataW.TrodAll enc Try.prog W 0 (fun _ => true) true Try.f14.params.toList args.toList ds p := hA0
  rw [Try.params14] at hA hval hsz
  obtain ⟨v0, vs0, d0, ds0, p0, q0, hargs, rfl, rfl, h0, r0⟩ := trodAll_cons hA
  obtain ⟨v1, vs1, d1, ds1, p1, q1, rfl, rfl, rfl, h1, r1⟩ := trodAll_cons r0
  obtain ⟨rfl, rfl, rfl⟩ := trodAll_nil r1
  obtain rfl : args = #[v0, v1] := by cases args; simp_all
  obtain ⟨rfl, rfl⟩ := trodVars_none hV
  have k0 := h0
  have lt0 : ∀ x ∈ p0, x.block < W.heap.size := by obtain ⟨m, hm⟩ := k0; exact DataW.trod_lt m _ _ _ hm
  obtain ⟨cs0, rfl, _⟩ := okWide_struct Try.underlying24 (hval 0 24 v0 rfl rfl)
  obtain ⟨x0, K0, w0⟩ := Kd.Opn.arg Pure.opn24 hsz (j := 0) rfl rfl h0
  obtain ⟨A0, c0, e0, l0, g0⟩ := K0
  obtain rfl : cs0 = #[.slice A0 x0.length c0] := by have e := congrArg List.toArray e0; simpa [Value.cells] using e
  have k1 := h1
  have lt1 : ∀ x ∈ p1, x.block < W.heap.size := by obtain ⟨m, hm⟩ := k1; exact DataW.trod_lt m _ _ _ hm
  obtain ⟨⟨x1_0, x1_1⟩, K1, w1⟩ := Kd.Opn.arg (Kd.Opn.array2 Try.underlying38 (by kernel_rfl) (by kernel_rfl) (Kd.Opn.int Try.underlying5)) hsz (j := 1) rfl rfl h1
  obtain ⟨_, _, e1, rfl, rfl⟩ := K1
  obtain rfl : v1 = .agg #[.int .u8 x1_0, .int .u8 x1_1] := by
    cases v1 <;> simp [Value.cells] at e1
    rename_i cs
    have e := congrArg List.toArray e1
    simpa using e
  clear hA0 hval0 hsz0 hsz hval
  obtain ⟨kk, hk⟩ := Pure.DomMeets x0 x1_0 x1_1 w0 w1
  refine (PF.portolanlaw06_DomMeets.calls kk A0 c0 x0 x1_0 x1_1 W g0 l0 hk).mono fun e W' ⟨he, bel⟩ => ?_
  subst he
  exact ⟨_, rfl, _, _, _, [], _, [], hW', trodAll_mk1 (shut_bool Try.underlying4 _), (trodAll_cons_mk (Below.trod laidOut (by kernel_rfl) (of_decide_eq_true (by kernel_rfl)) k0 bel lt0) (trodAll_cons_mk (Below.trod laidOut (by kernel_rfl) (of_decide_eq_true (by kernel_rfl)) k1 bel lt1) trodAll_mk0)), rfl, bel.frame _, fun h => by cases h⟩
theorem over : Rows.domMeetsRow.holds Try.pinned (OpenSpec.ofChange Rows.domMeetsSpec) :=
  OpenClaim.holds_of_wide 14 Try.f14 rfl rfl rfl rfl rfl rfl rfl ⟨rfl, rfl, rfl, rfl, rfl⟩ rfl rfl rfl rfl rfl (by kernel_rfl) Try.func14 (by kernel_rfl)
    (of_decide_eq_true (by kernel_rfl)) (by unfold Func.isWrapper; first | (rw [if_pos (by decide +kernel)]; kernel_rfl) | (rw [if_neg (by decide +kernel)]; exact ⟨rfl, rfl⟩))
    (fun os started H enc _ => lifted os started H enc)
theorem proved : Rows.DomMeetsSaid := over
#print axioms proved
end Go.Proofs.Ytcknmcfomkbenaa.domMeets
namespace Go.Proofs.Ytcknmcfomkbenaa
/-- The row, under a short name, for the claim. -/
theorem domMeets_holds : Rows.DomMeetsSaid := domMeets.proved
end Go.Proofs.Ytcknmcfomkbenaa
