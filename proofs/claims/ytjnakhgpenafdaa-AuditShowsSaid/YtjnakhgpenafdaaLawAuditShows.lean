/- The law AuditShows: at every input that the row speaks of, the call answers true, and what came in reads as before. -/
import Derived.Test.YtjnakhgpenafdaaRows
import Derived.Test.YtjnakhgpenafdaaSAuditShows
import Derived.Test.YtjnakhgpenafdaaPureAuditShows
import Derived.WalkKit
import Derived.ProofKit
import Derived.OpenShut
import Derived.ShutString
import Derived.ChangeOld
import Derived.Below
import Derived.SizedLaws
namespace Go.Proofs.Ytjnakhgpenafdaa.auditShows
open Go.ChangeShapes Go.WideShapes Go.ChangeAt Go.RowKit Go.Proofs.YtjnakhgpenafdaaW.PrintWords Go.Proofs.Ytjnakhgpenafdaa.P14
open Go.ChangeMaps (open_string shut_string)
set_option linter.unusedVariables false
theorem own : ownKnob Try.prog.godebug = none := by kernel_rfl
theorem laidOut : laidOutB Try.prog = true := by kernel_rfl
set_option maxRecDepth 100000 in
theorem lifted (os : Os) (started : os.Started) (H : Type) (enc : TypeId × Value → H) :
    ReturnsInHanded {} Try.checked os 4 .any (Rows.auditShowsSpec.pre6 enc Try.prog Try.f4 Rows.auditShowsRow.domain false) (Rows.auditShowsSpec.post enc Try.prog Try.f4 false true false false) := by
  refine returnsInHanded_of_change_sized (C := Try.checked) own started (by kernel_rfl) Try.func4
    (ChangeSpec.witness6 (enc := enc) (C := Try.checked) false ⟨#[], #[.agg #[.int .u64 0, .int .u64 0, .string ByteArray.empty, .int .i64 0, .string ByteArray.empty, .string ByteArray.empty, .int .u64 0, .int .i64 0, .slice none 0 0, .slice none 0 0], .agg #[.int .u64 0, .int .u64 0, .string ByteArray.empty, .int .i64 0, .string ByteArray.empty, .string ByteArray.empty, .int .u64 0, .int .i64 0, .slice none 0 0, .slice none 0 0], .agg #[.int .u64 0, .int .u64 0, .string ByteArray.empty, .int .i64 0, .string ByteArray.empty, .string ByteArray.empty, .int .u64 0, .int .i64 0, .slice none 0 0, .slice none 0 0]], []⟩ 8 (by kernel_rfl) (by kernel_rfl) (by kernel_rfl) (by kernel_rfl)) ?_
  intro W base args ds gs before hval0 hW hcnd hsz0 _
  have hsz : (DataW.weightsEach Try.prog (Try.f4.params.toList ++ Rows.auditShowsSpec.plain.varTypes Try.prog) (ds ++ gs)).all (· ≤ reachBytes) = true := hsz0
  have hval : ∀ (j : Nat) t v, Try.f4.params[j]? = some t → args[j]? = some v → Value.okWide Try.prog W .any base t v := hval0
  have hW' := hW
  obtain ⟨p, q, hA0, hV, rfl, hfz, hnd⟩ := hW
  have hA : DataW.TrodAll enc Try.prog W 0 (fun _ => true) true Try.f4.params.toList args.toList ds p := hA0
  rw [Try.params4] at hA hval hsz
  obtain ⟨v0, vs0, d0, ds0, p0, q0, hargs, rfl, rfl, h0, r0⟩ := trodAll_cons hA
  obtain ⟨v1, vs1, d1, ds1, p1, q1, rfl, rfl, rfl, h1, r1⟩ := trodAll_cons r0
  obtain ⟨v2, vs2, d2, ds2, p2, q2, rfl, rfl, rfl, h2, r2⟩ := trodAll_cons r1
  obtain ⟨rfl, rfl, rfl⟩ := trodAll_nil r2
  obtain rfl : args = #[v0, v1, v2] := by cases args; simp_all
  obtain ⟨rfl, rfl⟩ := trodVars_none hV
  have k0 := h0
  have lt0 := Op.trod_lt h0
  obtain ⟨x0, cs0, rfl, hK0, w0⟩ := Op.open_struct opens27 Try.underlying27 (hval 0 27 v0 rfl rfl) h0 (Op.weights_at hsz (j := 0) (t := 27) rfl rfl)
  obtain ⟨A0_8, c0_8, A0_9, c0_9, hcs0, l0_8, g0_8, l0_9, g0_9⟩ := k27_open hK0
  obtain ⟨cl0⟩ := cs0
  obtain rfl : cl0 = _ := hcs0
  have k1 := h1
  have lt1 := Op.trod_lt h1
  obtain ⟨x1, cs1, rfl, hK1, w1⟩ := Op.open_struct opens27 Try.underlying27 (hval 1 27 v1 rfl rfl) h1 (Op.weights_at hsz (j := 1) (t := 27) rfl rfl)
  obtain ⟨A1_8, c1_8, A1_9, c1_9, hcs1, l1_8, g1_8, l1_9, g1_9⟩ := k27_open hK1
  obtain ⟨cl1⟩ := cs1
  obtain rfl : cl1 = _ := hcs1
  have k2 := h2
  have lt2 := Op.trod_lt h2
  obtain ⟨x2, cs2, rfl, hK2, w2⟩ := Op.open_struct opens27 Try.underlying27 (hval 2 27 v2 rfl rfl) h2 (Op.weights_at hsz (j := 2) (t := 27) rfl rfl)
  obtain ⟨A2_8, c2_8, A2_9, c2_9, hcs2, l2_8, g2_8, l2_9, g2_9⟩ := k27_open hK2
  obtain ⟨cl2⟩ := cs2
  obtain rfl : cl2 = _ := hcs2
  clear hA0 hval0 hsz0 hsz
  obtain ⟨k, hP⟩ := Pure.AuditShows x0 x1 x2 w0 w1 w2
  refine (stelelaw14_AuditShows.calls (k := k) (r := true) (w := W) (a0_0 := x0.f0) (a0_1 := x0.f1) (a0_2 := x0.f2) (a0_3 := x0.f3) (a0_4 := x0.f4) (a0_5 := x0.f5) (a0_6 := x0.f6) (a0_7 := x0.f7) (A0_8 := A0_8) (c0_8 := c0_8) (l0_8 := x0.f8) (P0_8_ := fun _ => True) (hs0_8 := Op.share (Kd.heap_int .u8) l0_8 g0_8) (A0_9 := A0_9) (c0_9 := c0_9) (l0_9 := x0.f9) (P0_9_ := fun _ => True) (hs0_9 := Op.share (Kd.heap_int .u8) l0_9 g0_9) (a1_0 := x1.f0) (a1_1 := x1.f1) (a1_2 := x1.f2) (a1_3 := x1.f3) (a1_4 := x1.f4) (a1_5 := x1.f5) (a1_6 := x1.f6) (a1_7 := x1.f7) (A1_8 := A1_8) (c1_8 := c1_8) (l1_8 := x1.f8) (P1_8_ := fun _ => True) (hs1_8 := Op.share (Kd.heap_int .u8) l1_8 g1_8) (A1_9 := A1_9) (c1_9 := c1_9) (l1_9 := x1.f9) (P1_9_ := fun _ => True) (hs1_9 := Op.share (Kd.heap_int .u8) l1_9 g1_9) (a2_0 := x2.f0) (a2_1 := x2.f1) (a2_2 := x2.f2) (a2_3 := x2.f3) (a2_4 := x2.f4) (a2_5 := x2.f5) (a2_6 := x2.f6) (a2_7 := x2.f7) (A2_8 := A2_8) (c2_8 := c2_8) (l2_8 := x2.f8) (P2_8_ := fun _ => True) (hs2_8 := Op.share (Kd.heap_int .u8) l2_8 g2_8) (A2_9 := A2_9) (c2_9 := c2_9) (l2_9 := x2.f9) (P2_9_ := fun _ => True) (hs2_9 := Op.share (Kd.heap_int .u8) l2_9 g2_9) (hT_ := rfl) (h := hP)).mono fun e W' ⟨he, bel0⟩ => ?_
  have bel : Below W.heap.size W W' := bel0
  subst he
  exact ⟨_, rfl, _, _, _, [], _, [], hW', trodAll_mk1 (shut_bool Try.underlying4 _), (trodAll_cons_mk (Below.trod laidOut (by kernel_rfl) (of_decide_eq_true (by kernel_rfl)) k0 bel lt0) (trodAll_cons_mk (Below.trod laidOut (by kernel_rfl) (of_decide_eq_true (by kernel_rfl)) k1 bel lt1) (trodAll_cons_mk (Below.trod laidOut (by kernel_rfl) (of_decide_eq_true (by kernel_rfl)) k2 bel lt2) trodAll_mk0))), rfl, bel.frame _, fun h => by cases h⟩
theorem over : Rows.auditShowsRow.holds Try.pinned (OpenSpec.ofChange Rows.auditShowsSpec) :=
  OpenClaim.holds_of_wide 4 Try.f4 rfl rfl rfl rfl rfl rfl rfl ⟨rfl, rfl, rfl, rfl, rfl⟩ rfl rfl rfl rfl rfl (by kernel_rfl) Try.func4 (by kernel_rfl)
    (of_decide_eq_true (by kernel_rfl)) (by unfold Func.isWrapper; first | (rw [if_pos (by decide +kernel)]; kernel_rfl) | (rw [if_neg (by decide +kernel)]; exact ⟨rfl, rfl⟩))
    (fun os started H enc _ => lifted os started H enc)
theorem proved : Rows.AuditShowsSaid := over
end Go.Proofs.Ytjnakhgpenafdaa.auditShows
namespace Go.Proofs.Ytjnakhgpenafdaa
theorem auditShows_holds : Rows.AuditShowsSaid := auditShows.proved
#print axioms auditShows_holds
end Go.Proofs.Ytjnakhgpenafdaa
