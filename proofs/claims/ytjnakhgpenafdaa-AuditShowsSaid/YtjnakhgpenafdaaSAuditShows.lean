/- The plain statement of AuditShows. -/
import Derived.Test.YtjnakhgpenafdaaP14K
import Derived.Test.YtjnakhgpenafdaaP14x6
namespace Go.Proofs.Ytjnakhgpenafdaa
open Go.RowKit Go.Proofs.YtjnakhgpenafdaaW.PrintWords Go.Proofs.Ytjnakhgpenafdaa.P14
def PlainAuditShows : Prop := ∀ (x0 : S27) (x1 : S27) (x2 : S27), (wf27 x0) → (wf27 x1) → (wf27 x2) → ∃ k, stelelaw14_AuditShows.f k x0.f0 x0.f1 x0.f2 x0.f3 x0.f4 x0.f5 x0.f6 x0.f7 x0.f8 x0.f9 x1.f0 x1.f1 x1.f2 x1.f3 x1.f4 x1.f5 x1.f6 x1.f7 x1.f8 x1.f9 x2.f0 x2.f1 x2.f2 x2.f3 x2.f4 x2.f5 x2.f6 x2.f7 x2.f8 x2.f9 = some true
end Go.Proofs.Ytjnakhgpenafdaa
