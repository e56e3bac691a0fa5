/- The law AuditReads: at every input that the row speaks of, the call answers true, and what came in reads as before. -/
import Derived.Test.YtjnakhgpenafdaaRows
import Derived.Test.YtjnakhgpenafdaaSAuditReads
import Derived.Test.YtjnakhgpenafdaaPureAuditReads
import Derived.WalkKit
import Derived.ProofKit
import Derived.OpenShut
import Derived.ShutString
import Derived.ChangeOld
import Derived.Below
import Derived.SizedLaws
namespace Go.Proofs.Ytjnakhgpenafdaa.auditReads
open Go.ChangeShapes Go.WideShapes Go.ChangeAt Go.RowKit Go.Proofs.YtjnakhgpenafdaaW.PrintWords Go.Proofs.Ytjnakhgpenafdaa.P14
open Go.ChangeMaps (open_string shut_string)
set_option linter.unusedVariables false
theorem own : ownKnob Try.prog.godebug = none := by kernel_rfl
theorem laidOut : laidOutB Try.prog = true := by kernel_rfl
set_option maxRecDepth 100000 in
theorem lifted (os : Os) (started : os.Started) (H : Type) (enc : TypeId × Value → H) :
    ReturnsInHanded {} Try.checked os 7 .any (Rows.auditReadsSpec.pre6 enc Try.prog Try.f7 Rows.auditReadsRow.domain false) (Rows.auditReadsSpec.post enc Try.prog Try.f7 false true false false) := by
  refine returnsInHanded_of_change_sized (C := Try.checked) own started (by kernel_rfl) Try.func7
    (ChangeSpec.witness6 (enc := enc) (C := Try.checked) false ⟨#[], #[.slice none 0 0], []⟩ 8 (by kernel_rfl) (by kernel_rfl) (by kernel_rfl) (by kernel_rfl)) ?_
  intro W base args ds gs before hval0 hW hcnd hsz0 _
  have hsz : (DataW.weightsEach Try.prog (Try.f7.params.toList ++ Rows.auditReadsSpec.plain.varTypes Try.prog) (ds ++ gs)).all (· ≤ reachBytes) = true := hsz0
  have hval : ∀ (j : Nat) t v, Try.f7.params[j]? = some t → args[j]? = some v → Value.okWide Try.prog W .any base t v := hval0
  have hW' := hW
  obtain ⟨p, q, hA0, hV, rfl, hfz, hnd⟩ := hW
  have hA : DataW.TrodAll enc Try.prog W 0 (fun _ => true) true Try.f7.params.toList args.toList ds p := hA0
  rw [Try.params7] at hA hval hsz
  obtain ⟨v0, vs0, d0, ds0, p0, q0, hargs, rfl, rfl, h0, r0⟩ := trodAll_cons hA
  obtain ⟨rfl, rfl, rfl⟩ := trodAll_nil r0
  obtain rfl : args = #[v0] := by cases args; simp_all
  obtain ⟨rfl, rfl⟩ := trodVars_none hV
  have k0 := h0
  have lt0 := Op.trod_lt h0
  obtain ⟨x0, A0, c0, rfl, l0, g0, w0⟩ := Op.open_row (Op.Opens.slice (B := 1) (Op.Opens.int Try.underlying5 (by kernel_rfl)) Try.underlying25 (by kernel_rfl) (by kernel_rfl)) Try.underlying25 (hval 0 25 v0 rfl rfl) h0 (Op.weights_at hsz (j := 0) (t := 25) rfl rfl)
  clear hA0 hval0 hsz0 hsz
  have hP := Pure.AuditReads x0 w0
  refine (stelelaw14_AuditReads.calls (r := true) (w := W) (A0 := A0) (c0 := c0) (l0 := x0) (hr0 := g0) (hc0 := l0) (hT_ := rfl) (h := hP)).mono fun e W' ⟨he, bel0⟩ => ?_
  have bel : Below W.heap.size W W' := bel0
  subst he
  exact ⟨_, rfl, _, _, _, [], _, [], hW', trodAll_mk1 (shut_bool Try.underlying4 _), (trodAll_cons_mk (Below.trod laidOut (by kernel_rfl) (of_decide_eq_true (by kernel_rfl)) k0 bel lt0) trodAll_mk0), rfl, bel.frame _, fun h => by cases h⟩
theorem over : Rows.auditReadsRow.holds Try.pinned (OpenSpec.ofChange Rows.auditReadsSpec) :=
  OpenClaim.holds_of_wide 7 Try.f7 rfl rfl rfl rfl rfl rfl rfl ⟨rfl, rfl, rfl, rfl, rfl⟩ rfl rfl rfl rfl rfl (by kernel_rfl) Try.func7 (by kernel_rfl)
    (of_decide_eq_true (by kernel_rfl)) (by unfold Func.isWrapper; first | (rw [if_pos (by decide +kernel)]; kernel_rfl) | (rw [if_neg (by decide +kernel)]; exact ⟨rfl, rfl⟩))
    (fun os started H enc _ => lifted os started H enc)
theorem proved : Rows.AuditReadsSaid := over
end Go.Proofs.Ytjnakhgpenafdaa.auditReads
namespace Go.Proofs.Ytjnakhgpenafdaa
theorem auditReads_holds : Rows.AuditReadsSaid := auditReads.proved
#print axioms auditReads_holds
end Go.Proofs.Ytjnakhgpenafdaa
