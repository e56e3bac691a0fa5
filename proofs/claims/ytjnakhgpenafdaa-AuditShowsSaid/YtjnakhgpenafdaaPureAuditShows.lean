/- The plain statement of AuditShows, proved. -/
import Derived.Test.YtjnakhgpenafdaaSAuditShows
import Derived.Test.YtjnakhgpenafdaaPl14
namespace Go.Proofs.Ytjnakhgpenafdaa
open Go.RowKit Go.Proofs.YtjnakhgpenafdaaW.PrintWords Go.Proofs.Ytjnakhgpenafdaa.P14
set_option linter.unusedVariables false
theorem Pure.AuditShows : PlainAuditShows := by
  intro x y z hx hy hz
  refine ⟨4, ?_⟩
  have hl : stelelaw14_light.f 4 [x, y, z] = some (lightB [x, y, z]) := light_f (l := [x, y, z]) (by
    intro a ha
    simp only [List.mem_cons, List.not_mem_nil, or_false] at ha
    rcases ha with rfl | rfl | rfl <;> assumption) (by simp) (by simp)
  unfold stelelaw14_AuditShows.f
  rw [show stelelaw14_light.f 4 ([(⟨x.f0, x.f1, x.f2, x.f3, x.f4, x.f5, x.f6, x.f7, x.f8, x.f9⟩ : S27), (⟨y.f0, y.f1, y.f2, y.f3, y.f4, y.f5, y.f6, y.f7, y.f8, y.f9⟩ : S27), (⟨z.f0, z.f1, z.f2, z.f3, z.f4, z.f5, z.f6, z.f7, z.f8, z.f9⟩ : S27)] : List S27) = some (lightB [x, y, z]) from hl]
  simp only [Option.bind_some]
  by_cases h : lightB [x, y, z] = true
  · have hs : sz x ≤ 5000 ∧ sz y ≤ 5000 ∧ sz z ≤ 5000 := by simpa [lightB, smallS] using h
    have ox : OkS x := ⟨hx, hs.1⟩
    have oy : OkS y := ⟨hy, hs.2.1⟩
    have oz : OkS z := ⟨hz, hs.2.2⟩
    have n1 := showS_length ox
    have n2 : (digS x).length = 32 := Sha.sha_length _
    rw [if_pos h, ashow_f ox]
    simp only [Option.bind_some]
    rw [rshow_f ox]
    simp only [Option.bind_some]
    rw [rsame_i8s (by omega) (by omega)]
    simp only [Option.bind_some, decide_true, if_true]
    rw [adig_f ox]
    simp only [Option.bind_some]
    rw [rdig_f ox]
    simp only [Option.bind_some]
    rw [rsame_i8s (by omega) (by omega)]
    simp only [Option.bind_some, decide_true, if_true]
    rw [asameS oy oz]
    simp only [Option.bind_some]
    rw [rsameS oy oz]
    simp only [Option.bind_some]
    rw [if_pos (by simp)]
    rfl
  · rw [if_neg h]
end Go.Proofs.Ytjnakhgpenafdaa
