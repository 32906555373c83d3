/- Proved: every limit, codec and hash number of package api is the number in the document; no condition. -/
import Derived.Test.YtinnfbhdafkogaaPApiLimitsx1
namespace Go.Proofs.Ytinnfbhdafkogaa.Pure
open Go.RowKit Go.Proofs.Ytinnfbhdafkogaa.PApiLimits Go.Proofs.YtinnfbhdafkogaaW.PrintWords Go.Proofs.YtinnfbhdafkogaaW.PrintLast

/-- YOURS: ∃ k, trellislaw0_ApiLimits.f k  = some true
What it reaches (each with k first where it has rounds; `.mono`: more rounds tell the same; `.l0`, ..: its loops, with `.mono_l`): trellislaw0_same.f, trellislaw0_ApiLimits.f -/
theorem ApiLimits : trellislaw0_ApiLimits.Pure := by
  exact ⟨200, by decide +kernel⟩

end Go.Proofs.Ytinnfbhdafkogaa.Pure
