/- audit.Same, plainly. -/
import Derived.Test.YtjnakhgpenafdaaPl14
import Derived.Test.YtjnakhgpenafdaaP14x3
namespace Go.Proofs.Ytjnakhgpenafdaa
open Go.RowKit Go.Proofs.YtjnakhgpenafdaaW.PrintWords Go.Proofs.Ytjnakhgpenafdaa.P14
set_option linter.unusedVariables false
set_option linter.unusedSimpArgs false
theorem asameS {x y : S27} (hx : OkS x) (hy : OkS y) : audit_Same.f x.f0 x.f1 x.f2 x.f3 x.f4 x.f5 x.f6 x.f7 x.f8 x.f9 y.f0 y.f1 y.f2 y.f3 y.f4 y.f5 y.f6 y.f7 y.f8 y.f9 = some (sameS x y) := by
  have k1 := hx.okr; have k2 := hy.okr
  have s1 := hx.small; have s2 := hy.small
  unfold sz at s1 s2
  unfold audit_Same.f sameS
  rw [dsame_f k1.s8 k2.s8 (by omega) (by omega), dsame_f k1.s9 k2.s9 (by omega) (by omega)]
  simp only [Option.bind_some, ite_some, Bool.decide_eq_true]
  congr 1
  rw [show (x.f7 == y.f7) = decide (x.f7 = y.f7) from rfl]
  ac_rfl
end Go.Proofs.Ytjnakhgpenafdaa
