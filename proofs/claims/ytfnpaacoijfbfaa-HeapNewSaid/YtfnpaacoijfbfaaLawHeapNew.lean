/- portolanlaw09_HeapNew: the law answers true for every input; out of its plain statement (PureHeapNew) and the walk. -/
import Derived.Test.YtfnpaacoijfbfaaRows
import Derived.Test.YtfnpaacoijfbfaaPXx11
import Derived.Test.YtfnpaacoijfbfaaWR
import Derived.Test.YtfnpaacoijfbfaaPureHeapNew
import Derived.WalkKit
import Derived.ProofKit
import Derived.OpenShut
import Derived.ShutString
import Derived.ChangeOld
import Derived.Below
import Derived.SizedLaws
namespace Go.Proofs.Ytfnpaacoijfbfaa.heapNew
open Go.ChangeShapes Go.WideShapes Go.ChangeAt Go.RowKit Go.Proofs.YtfnpaacoijfbfaaW.PrintWords
theorem own : ownKnob Try.prog.godebug = none := by kernel_rfl
theorem laidOut : laidOutB Try.prog = true := by kernel_rfl
theorem opn47 : Kd.Opn Try.prog 47 PX.k47 (fun x => (x.f0.length * 8 ≤ 140737488351232 ∧ ∀ y ∈ x.f0, (Lit.int .i64 y).wf = true) ∧ (x.f1.length * 8 ≤ 140737488351232 ∧ ∀ y ∈ x.f1, (Lit.int .i64 y).wf = true)) := Kd.Opn.iso (f := fun x : PX.S47 => (x.f0, x.f1)) (fun x => ⟨x.1, x.2⟩) (fun _ => rfl) (Kd.Opn.struct Try.underlying47 (by kernel_rfl) (Kd.OpnFs.cons rfl (by kernel_rfl) (by decide) (Kd.Opn.slice Try.underlying26 (by kernel_rfl) (B := 8) (by kernel_rfl) (Kd.Opn.int Try.underlying3)) (Kd.OpnFs.one rfl (by kernel_rfl) (Kd.Opn.slice Try.underlying26 (by kernel_rfl) (B := 8) (by kernel_rfl) (Kd.Opn.int Try.underlying3)))))
theorem opn24 : Kd.Opn Try.prog 24 (Kd.slice 47 PX.k47) (fun l => l.length * 48 ≤ 140737488351232 ∧ ∀ x ∈ l, (x.f0.length * 8 ≤ 140737488351232 ∧ ∀ y ∈ x.f0, (Lit.int .i64 y).wf = true) ∧ (x.f1.length * 8 ≤ 140737488351232 ∧ ∀ y ∈ x.f1, (Lit.int .i64 y).wf = true)) := Kd.Opn.struct Try.underlying24 (by kernel_rfl) (Kd.OpnFs.one rfl (by kernel_rfl) (Kd.Opn.slice Try.underlying22 (by kernel_rfl) (B := 48) (by kernel_rfl) opn47))
set_option maxRecDepth 100000 in
set_option maxHeartbeats 1000000 in
theorem lifted (os : Os) (started : os.Started) (H : Type) (enc : TypeId × Value → H) :
    ReturnsInHanded {} Try.checked os 4 .any (Rows.heapNewSpec.pre6 enc Try.prog Try.f4 Rows.heapNewRow.domain false) (Rows.heapNewSpec.post enc Try.prog Try.f4 false true false false) := by
  refine returnsInHanded_of_change_sized (C := Try.checked) own started (by kernel_rfl) Try.func4
    (ChangeSpec.witness6 (enc := enc) (C := Try.checked) false ⟨#[], #[.agg #[.slice none 0 0], .agg #[.int .u8 0, .int .u8 0], .slice none 0 0], []⟩ 8 (by kernel_rfl) (by kernel_rfl) (by kernel_rfl) (by kernel_rfl)) ?_
  intro W base args ds gs before hval0 hW hcnd hsz0 _
  have hsz : (DataW.weightsEach Try.prog (Try.f4.params.toList ++ Rows.heapNewSpec.plain.varTypes Try.prog) (ds ++ gs)).all (· ≤ reachBytes) = true := hsz0
  have hval : ∀ (j : Nat) t v, Try.f4.params[j]? = some t → args[j]? = some v → Value.okWide Try.prog W .any base t v := hval0
  have hW' := hW
  obtain ⟨p, q, hA0, hV, rfl, hfz, hnd⟩ := hW
  have hA : DataW.TrodAll enc Try.prog W 0 (fun _ => true) true Try.f4.params.toList args.toList ds p := hA0
  rw [Try.params4] at hA hval hsz
  obtain ⟨v0, vs0, d0, ds0, p0, q0, hargs, rfl, rfl, h0, r0⟩ := trodAll_cons hA
  obtain ⟨v1, vs1, d1, ds1, p1, q1, rfl, rfl, rfl, h1, r1⟩ := trodAll_cons r0
  obtain ⟨v2, vs2, d2, ds2, p2, q2, rfl, rfl, rfl, h2, r2⟩ := trodAll_cons r1
  obtain ⟨rfl, rfl, rfl⟩ := trodAll_nil r2
  obtain rfl : args = #[v0, v1, v2] := by cases args; simp_all
  obtain ⟨rfl, rfl⟩ := trodVars_none hV
  have k0 := h0
  have lt0 : ∀ x ∈ p0, x.block < W.heap.size := by obtain ⟨m, hm⟩ := k0; exact DataW.trod_lt m _ _ _ hm
  obtain ⟨cs0, rfl, _⟩ := okWide_struct Try.underlying24 (hval 0 24 v0 rfl rfl)
  obtain ⟨x0, K0, w0⟩ := Kd.Opn.arg opn24 hsz (j := 0) rfl rfl h0
  obtain ⟨A0, c0, e0, l0, g0⟩ := K0
  obtain rfl : cs0 = #[.slice A0 x0.length c0] := by have e := congrArg List.toArray e0; simpa [Value.cells] using e
  have k1 := h1
  have lt1 : ∀ x ∈ p1, x.block < W.heap.size := by obtain ⟨m, hm⟩ := k1; exact DataW.trod_lt m _ _ _ hm
  obtain ⟨⟨x1_0, x1_1⟩, K1, w1⟩ := Kd.Opn.arg (Kd.Opn.array2 Try.underlying37 (by kernel_rfl) (by kernel_rfl) (Kd.Opn.int Try.underlying5)) hsz (j := 1) rfl rfl h1
  obtain ⟨_, _, e1, rfl, rfl⟩ := K1
  obtain rfl : v1 = .agg #[.int .u8 x1_0, .int .u8 x1_1] := by
    cases v1 <;> simp [Value.cells] at e1
    rename_i cs
    have e := congrArg List.toArray e1
    simpa using e
  have k2 := h2
  have lt2 : ∀ x ∈ p2, x.block < W.heap.size := by obtain ⟨m, hm⟩ := k2; exact DataW.trod_lt m _ _ _ hm
  obtain ⟨sa2, sl2, sc2, rfl⟩ := okWide_slice Try.underlying26 (hval 2 26 v2 rfl rfl)
  obtain ⟨x2, K2, w2⟩ := Kd.Opn.arg (Kd.Opn.slice Try.underlying26 (by kernel_rfl) (B := 8) (by kernel_rfl) (Kd.Opn.int Try.underlying3)) hsz (j := 2) rfl rfl h2
  obtain ⟨A2, c2, e2, l2, g2⟩ := K2
  simp only [Value.cells] at e2
  obtain ⟨rfl, rfl, rfl⟩ : sa2 = A2 ∧ sl2 = x2.length ∧ sc2 = c2 := by simpa using e2
  clear hA0 hval0 hsz0 hsz hval
  obtain ⟨kk, hk⟩ := Pure.HeapNew x0 x1_0 x1_1 x2 w0 w1 w2
  refine (PX.portolanlaw09_HeapNew.calls kk A0 c0 x0 x1_0 x1_1 sa2 sc2 x2 W g0 l0 g2 l2 hk).mono fun e W' ⟨he, bel⟩ => ?_
  subst he
  exact ⟨_, rfl, _, _, _, [], _, [], hW', trodAll_mk1 (shut_bool Try.underlying4 _), (trodAll_cons_mk (Below.trod laidOut (by kernel_rfl) (of_decide_eq_true (by kernel_rfl)) k0 bel lt0) (trodAll_cons_mk (Below.trod laidOut (by kernel_rfl) (of_decide_eq_true (by kernel_rfl)) k1 bel lt1) (trodAll_cons_mk (Below.trod laidOut (by kernel_rfl) (of_decide_eq_true (by kernel_rfl)) k2 bel lt2) trodAll_mk0))), rfl, bel.frame _, fun h => by cases h⟩
theorem over : Rows.heapNewRow.holds Try.pinned (OpenSpec.ofChange Rows.heapNewSpec) :=
  OpenClaim.holds_of_wide 4 Try.f4 rfl rfl rfl rfl rfl rfl rfl ⟨rfl, rfl, rfl, rfl, rfl⟩ rfl rfl rfl rfl rfl (by kernel_rfl) Try.func4 (by kernel_rfl)
    (of_decide_eq_true (by kernel_rfl)) (by unfold Func.isWrapper; first | (rw [if_pos (by decide +kernel)]; kernel_rfl) | (rw [if_neg (by decide +kernel)]; exact ⟨rfl, rfl⟩))
    (fun os started H enc _ => lifted os started H enc)
theorem proved : Rows.HeapNewSaid := over
#print axioms proved
end Go.Proofs.Ytfnpaacoijfbfaa.heapNew
namespace Go.Proofs.Ytfnpaacoijfbfaa
/-- The row, under a short name, for the claim. -/
theorem heapNew_holds : Rows.HeapNewSaid := heapNew.proved
end Go.Proofs.Ytfnpaacoijfbfaa
