/- Proved: every error number of package api is the number that stands beside its name in the document; no condition. -/
import Derived.Test.YtinnfbhdafkogaaPApiErrorsx2
namespace Go.Proofs.Ytinnfbhdafkogaa.Pure
open Go.RowKit Go.Proofs.Ytinnfbhdafkogaa.PApiErrors Go.Proofs.YtinnfbhdafkogaaW.PrintWords Go.Proofs.YtinnfbhdafkogaaW.PrintLast

/-- YOURS: ∃ k, trellislaw0_ApiErrors.f k  = some true
What it reaches (each with k first where it has rounds; `.mono`: more rounds tell the same; `.l0`, ..: its loops, with `.mono_l`): trellislaw0_same.f, trellislaw0_num.f, trellislaw0_errors1.f, trellislaw0_errors2.f, trellislaw0_errors3.f, trellislaw0_errors4.f, trellislaw0_ApiErrors.f -/
theorem ApiErrors : trellislaw0_ApiErrors.Pure := by
  exact ⟨200, by decide +kernel⟩

end Go.Proofs.Ytinnfbhdafkogaa.Pure
