/- The plain statement of AuditReads, proved. -/
import Derived.Test.YtjnakhgpenafdaaSAuditReads
import Derived.Test.YtjnakhgpenafdaaPlRd
namespace Go.Proofs.Ytjnakhgpenafdaa
open Go.RowKit Go.Proofs.YtjnakhgpenafdaaW.PrintWords Go.Proofs.Ytjnakhgpenafdaa.P14
set_option linter.unusedVariables false
theorem Pure.AuditReads : PlainAuditReads := by
  intro l hl
  unfold stelelaw14_AuditReads.f
  by_cases c : (l.length : Int) > 10000
  · rw [if_pos c]; rfl
  · rw [if_neg c]
    have hr : readsAs l = some (recOf (fieldsOf (u8s l))) := if_pos (okRead_wf hl.2 (by omega))
    have ho := okS_rec (fieldsOf_num (u8s l))
    obtain ⟨o, e⟩ : ∃ o, o = recOf (fieldsOf (u8s l)) := ⟨_, rfl⟩
    rw [← e] at hr ho
    have hs : steleref14_Same.f o.1 o.2.1 o.2.2.1 o.2.2.2.1 o.2.2.2.2.1 o.2.2.2.2.2.1 o.2.2.2.2.2.2.1 o.2.2.2.2.2.2.2.1 o.2.2.2.2.2.2.2.2.1 o.2.2.2.2.2.2.2.2.2.1 o.1 o.2.1 o.2.2.1 o.2.2.2.1 o.2.2.2.2.1 o.2.2.2.2.2.1 o.2.2.2.2.2.2.1 o.2.2.2.2.2.2.2.1 o.2.2.2.2.2.2.2.2.1 o.2.2.2.2.2.2.2.2.2.1 = some (sameS (s27 o) (s27 o)) := rsameS ho ho
    rw [sameS_self] at hs
    unfold aread.f rread.f
    rw [hr]
    simp only [Option.bind_some]
    rw [if_pos trivial, hs]
    rfl
end Go.Proofs.Ytjnakhgpenafdaa
