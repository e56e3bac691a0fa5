/- The plain statement of AuditBack. -/
import Derived.Test.YtjnakhgpenafdaaP14K
import Derived.Test.YtjnakhgpenafdaaP14x7
namespace Go.Proofs.Ytjnakhgpenafdaa
open Go.RowKit Go.Proofs.YtjnakhgpenafdaaW.PrintWords Go.Proofs.Ytjnakhgpenafdaa.P14
def PlainAuditBack : Prop := ∀ (x0 : S27) (x1 : List Int), (wf27 x0) → (x1.length * 1 ≤ 140737488351232 ∧ ∀ y2 ∈ x1, (Lit.int .u8 y2).wf = true) → ∃ k, stelelaw14_AuditBack.f k x0.f0 x0.f1 x0.f2 x0.f3 x0.f4 x0.f5 x0.f6 x0.f7 x0.f8 x0.f9 x1 = some true
end Go.Proofs.Ytjnakhgpenafdaa
