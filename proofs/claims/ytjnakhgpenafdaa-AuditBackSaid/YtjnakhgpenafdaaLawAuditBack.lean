/- The law AuditBack: at every input that the row speaks of, the call answers true, and what came in reads as before. -/
import Derived.Test.YtjnakhgpenafdaaRows
import Derived.Test.YtjnakhgpenafdaaSAuditBack
import Derived.Test.YtjnakhgpenafdaaPureAuditBack
import Derived.WalkKit
import Derived.ProofKit
import Derived.OpenShut
import Derived.ShutString
import Derived.ChangeOld
import Derived.Below
import Derived.SizedLaws
namespace Go.Proofs.Ytjnakhgpenafdaa.auditBack
open Go.ChangeShapes Go.WideShapes Go.ChangeAt Go.RowKit Go.Proofs.YtjnakhgpenafdaaW.PrintWords Go.Proofs.Ytjnakhgpenafdaa.P14
open Go.ChangeMaps (open_string shut_string)
set_option linter.unusedVariables false
theorem own : ownKnob Try.prog.godebug = none := by kernel_rfl
theorem laidOut : laidOutB Try.prog = true := by kernel_rfl
set_option maxRecDepth 100000 in
theorem lifted (os : Os) (started : os.Started) (H : Type) (enc : TypeId × Value → H) :
    ReturnsInHanded {} Try.checked os 8 .any (Rows.auditBackSpec.pre6 enc Try.prog Try.f8 Rows.auditBackRow.domain false) (Rows.auditBackSpec.post enc Try.prog Try.f8 false true false false) := by
  refine returnsInHanded_of_change_sized (C := Try.checked) own started (by kernel_rfl) Try.func8
    (ChangeSpec.witness6 (enc := enc) (C := Try.checked) false ⟨#[], #[.agg #[.int .u64 0, .int .u64 0, .string ByteArray.empty, .int .i64 0, .string ByteArray.empty, .string ByteArray.empty, .int .u64 0, .int .i64 0, .slice none 0 0, .slice none 0 0], .slice none 0 0], []⟩ 8 (by kernel_rfl) (by kernel_rfl) (by kernel_rfl) (by kernel_rfl)) ?_
  intro W base args ds gs before hval0 hW hcnd hsz0 _
  have hsz : (DataW.weightsEach Try.prog (Try.f8.params.toList ++ Rows.auditBackSpec.plain.varTypes Try.prog) (ds ++ gs)).all (· ≤ reachBytes) = true := hsz0
  have hval : ∀ (j : Nat) t v, Try.f8.params[j]? = some t → args[j]? = some v → Value.okWide Try.prog W .any base t v := hval0
  have hW' := hW
  obtain ⟨p, q, hA0, hV, rfl, hfz, hnd⟩ := hW
  have hA : DataW.TrodAll enc Try.prog W 0 (fun _ => true) true Try.f8.params.toList args.toList ds p := hA0
  rw [Try.params8] at hA hval hsz
  obtain ⟨v0, vs0, d0, ds0, p0, q0, hargs, rfl, rfl, h0, r0⟩ := trodAll_cons hA
  obtain ⟨v1, vs1, d1, ds1, p1, q1, rfl, rfl, rfl, h1, r1⟩ := trodAll_cons r0
  obtain ⟨rfl, rfl, rfl⟩ := trodAll_nil r1
  obtain rfl : args = #[v0, v1] := by cases args; simp_all
  obtain ⟨rfl, rfl⟩ := trodVars_none hV
  have k0 := h0
  have lt0 := Op.trod_lt h0
  obtain ⟨x0, cs0, rfl, hK0, w0⟩ := Op.open_struct opens27 Try.underlying27 (hval 0 27 v0 rfl rfl) h0 (Op.weights_at hsz (j := 0) (t := 27) rfl rfl)
  obtain ⟨A0_8, c0_8, A0_9, c0_9, hcs0, l0_8, g0_8, l0_9, g0_9⟩ := k27_open hK0
  obtain ⟨cl0⟩ := cs0
  obtain rfl : cl0 = _ := hcs0
  have k1 := h1
  have lt1 := Op.trod_lt h1
  obtain ⟨x1, A1, c1, rfl, l1, g1, w1⟩ := Op.open_row (Op.Opens.slice (B := 1) (Op.Opens.int Try.underlying5 (by kernel_rfl)) Try.underlying25 (by kernel_rfl) (by kernel_rfl)) Try.underlying25 (hval 1 25 v1 rfl rfl) h1 (Op.weights_at hsz (j := 1) (t := 25) rfl rfl)
  clear hA0 hval0 hsz0 hsz
  obtain ⟨k, hP⟩ := Pure.AuditBack x0 x1 w0 w1
  refine (stelelaw14_AuditBack.calls (k := k) (r := true) (w := W) (a0_0 := x0.f0) (a0_1 := x0.f1) (a0_2 := x0.f2) (a0_3 := x0.f3) (a0_4 := x0.f4) (a0_5 := x0.f5) (a0_6 := x0.f6) (a0_7 := x0.f7) (A0_8 := A0_8) (c0_8 := c0_8) (l0_8 := x0.f8) (P0_8_ := fun _ => True) (hs0_8 := Op.share (Kd.heap_int .u8) l0_8 g0_8) (A0_9 := A0_9) (c0_9 := c0_9) (l0_9 := x0.f9) (P0_9_ := fun _ => True) (hs0_9 := Op.share (Kd.heap_int .u8) l0_9 g0_9) (A1 := A1) (c1 := c1) (l1 := x1) (hr1 := g1) (hc1 := l1) (hT_ := rfl) (h := hP)).mono fun e W' ⟨he, bel0⟩ => ?_
  have bel : Below W.heap.size W W' := bel0
  subst he
  exact ⟨_, rfl, _, _, _, [], _, [], hW', trodAll_mk1 (shut_bool Try.underlying4 _), (trodAll_cons_mk (Below.trod laidOut (by kernel_rfl) (of_decide_eq_true (by kernel_rfl)) k0 bel lt0) (trodAll_cons_mk (Below.trod laidOut (by kernel_rfl) (of_decide_eq_true (by kernel_rfl)) k1 bel lt1) trodAll_mk0)), rfl, bel.frame _, fun h => by cases h⟩
theorem over : Rows.auditBackRow.holds Try.pinned (OpenSpec.ofChange Rows.auditBackSpec) :=
  OpenClaim.holds_of_wide 8 Try.f8 rfl rfl rfl rfl rfl rfl rfl ⟨rfl, rfl, rfl, rfl, rfl⟩ rfl rfl rfl rfl rfl (by kernel_rfl) Try.func8 (by kernel_rfl)
    (of_decide_eq_true (by kernel_rfl)) (by unfold Func.isWrapper; first | (rw [if_pos (by decide +kernel)]; kernel_rfl) | (rw [if_neg (by decide +kernel)]; exact ⟨rfl, rfl⟩))
    (fun os started H enc _ => lifted os started H enc)
theorem proved : Rows.AuditBackSaid := over
end Go.Proofs.Ytjnakhgpenafdaa.auditBack
namespace Go.Proofs.Ytjnakhgpenafdaa
theorem auditBack_holds : Rows.AuditBackSaid := auditBack.proved
#print axioms auditBack_holds
end Go.Proofs.Ytjnakhgpenafdaa
