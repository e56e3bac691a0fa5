/- The plain statement of AuditReads. -/
import Derived.Test.YtjnakhgpenafdaaP14K
import Derived.Test.YtjnakhgpenafdaaP14x11
namespace Go.Proofs.Ytjnakhgpenafdaa
open Go.RowKit Go.Proofs.YtjnakhgpenafdaaW.PrintWords Go.Proofs.Ytjnakhgpenafdaa.P14
def PlainAuditReads : Prop := ∀ (x0 : List Int), (x0.length * 1 ≤ 140737488351232 ∧ ∀ y2 ∈ x0, (Lit.int .u8 y2).wf = true) → stelelaw14_AuditReads.f x0 = some true
end Go.Proofs.Ytjnakhgpenafdaa
