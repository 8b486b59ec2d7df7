/- The laws' live check: it tells true. -/
import Derived.Test.YtephhhflifjcmaaKx6
namespace Go.Proofs.Ytephhhflifjcmaa.M
open Go.RowKit Go.Proofs.Ytephhhflifjcmaa.K Go.Proofs.YtephhhflifjcmaaW.PrintWords Go.Proofs.YtephhhflifjcmaaW.PrintLast
theorem live_at : klaxonlaw07_live.f 40 = some true := by decide +kernel
theorem live_tells : Ev (fun k => klaxonlaw07_live.f k) true := Ev.of klaxonlaw07_live.mono live_at
end Go.Proofs.Ytephhhflifjcmaa.M
