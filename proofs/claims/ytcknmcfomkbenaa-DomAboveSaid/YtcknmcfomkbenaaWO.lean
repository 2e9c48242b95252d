/- How a program handed to a law is opened into plain Lean values: no walk. -/
import Derived.Test.YtcknmcfomkbenaaWZ
import Derived.Test.YtcknmcfomkbenaaPO
namespace Go.Proofs.Ytcknmcfomkbenaa.Pure
open Go.RowKit Go.Proofs.YtcknmcfomkbenaaW.PrintWords Go.Proofs.Ytcknmcfomkbenaa.PF Go.Proofs.Ytcknmcfomkbenaa.E
theorem len8 {n : Nat} (h : n * 8 ≤ 140737488351232) : n ≤ 17592186043904 := by omega
theorem opn52 : Kd.Opn Try.prog 52 k52 W52 :=
  Kd.Opn.imp (Kd.Opn.iso (f := fun x : S52 => (x.f0, x.f1, x.f2, x.f3, x.f4, x.f5, x.f6)) (fun x => ⟨x.1, x.2.1, x.2.2.1, x.2.2.2.1, x.2.2.2.2.1, x.2.2.2.2.2.1, x.2.2.2.2.2.2⟩) (fun _ => rfl)
    (Kd.Opn.struct Try.underlying52 (by kernel_rfl) (Kd.OpnFs.cons rfl (by kernel_rfl) (by decide) (Kd.Opn.int Try.underlying3) (Kd.OpnFs.cons rfl (by kernel_rfl) (by decide) (Kd.Opn.int Try.underlying3) (Kd.OpnFs.cons rfl (by kernel_rfl) (by decide) (Kd.Opn.int Try.underlying3) (Kd.OpnFs.cons rfl (by kernel_rfl) (by decide) (Kd.Opn.int Try.underlying3) (Kd.OpnFs.cons rfl (by kernel_rfl) (by decide) (Kd.Opn.int Try.underlying3) (Kd.OpnFs.cons rfl (by kernel_rfl) (by decide) (Kd.Opn.int Try.underlying3)
      (Kd.OpnFs.one rfl (by kernel_rfl) (Kd.Opn.slice Try.underlying27 (by kernel_rfl) (B := 8) (by kernel_rfl) (Kd.Opn.int Try.underlying3)))))))))))
  (fun x h => ⟨i64 h.1, i64 h.2.1, i64 h.2.2.1, i64 h.2.2.2.1, i64 h.2.2.2.2.1, i64 h.2.2.2.2.2.1, len8 h.2.2.2.2.2.2.1, fun y hy => i64 (h.2.2.2.2.2.2.2 y hy)⟩)
theorem opn50 : Kd.Opn Try.prog 50 k50 W50 :=
  Kd.Opn.imp (Kd.Opn.iso (f := fun x : S50 => x.f0) (fun x => ⟨x⟩) (fun _ => rfl) (Kd.Opn.struct Try.underlying50 (by kernel_rfl) (Kd.OpnFs.one rfl (by kernel_rfl) (Kd.Opn.slice Try.underlying48 (by kernel_rfl) (B := 72) (by kernel_rfl) opn52))))
  (fun x h => ⟨by have := h.1; omega, h.2⟩)
theorem opn30 : Kd.Opn Try.prog 30 k30 W30 :=
  Kd.Opn.imp (Kd.Opn.iso (f := fun x : S30 => (x.f0, x.f1, x.f2, x.f3, x.f4)) (fun x => ⟨x.1, x.2.1, x.2.2.1, x.2.2.2.1, x.2.2.2.2⟩) (fun _ => rfl)
    (Kd.Opn.struct Try.underlying30 (by kernel_rfl) (Kd.OpnFs.cons rfl (by kernel_rfl) (by decide) (Kd.Opn.slice Try.underlying27 (by kernel_rfl) (B := 8) (by kernel_rfl) (Kd.Opn.int Try.underlying3)) (Kd.OpnFs.cons rfl (by kernel_rfl) (by decide) (Kd.Opn.slice Try.underlying27 (by kernel_rfl) (B := 8) (by kernel_rfl) (Kd.Opn.int Try.underlying3)) (Kd.OpnFs.cons rfl (by kernel_rfl) (by decide) (Kd.Opn.int Try.underlying3) (Kd.OpnFs.cons rfl (by kernel_rfl) (by decide) (Kd.Opn.int Try.underlying3)
      (Kd.OpnFs.one rfl (by kernel_rfl) (Kd.Opn.slice Try.underlying28 (by kernel_rfl) (B := 24) (by kernel_rfl) opn50))))))))
  (fun x h => ⟨len8 h.1.1, fun y hy => i64 (h.1.2 y hy), len8 h.2.1.1, fun y hy => i64 (h.2.1.2 y hy), i64 h.2.2.1, i64 h.2.2.2.1, by have h3 : x.f4.length * 24 ≤ 140737488351232 := h.2.2.2.2.1; omega, h.2.2.2.2.2⟩)
theorem opn24 : Kd.Opn Try.prog 24 (Kd.slice 30 k30) WP :=
  Kd.Opn.imp (Kd.Opn.struct Try.underlying24 (by kernel_rfl) (Kd.OpnFs.one rfl (by kernel_rfl) (Kd.Opn.slice Try.underlying22 (by kernel_rfl) (B := 88) (by kernel_rfl) opn30)))
  (fun x h => ⟨by have := h.1; omega, h.2⟩)
end Go.Proofs.Ytcknmcfomkbenaa.Pure
